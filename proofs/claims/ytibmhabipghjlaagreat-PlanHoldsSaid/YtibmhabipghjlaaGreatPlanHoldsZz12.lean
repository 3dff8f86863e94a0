/- Several texts in one: PlanHolds: a pixel of an image, asked of a spy. PlanHolds: what a spy's calls leave alone, beside writes to one's own; near.By of a spy. Plain: quotients rounded to the nearer number, as bytes; weights with bytes. weight.Mix. weight: split numbers, linear and cubic weights. weight: linear and cubic weights, walked. linear: the four pixels around a place (what needs no images, out of SP7). Sums and differences of 64 bits; wide numbers: what they are, sums, differences, signs. Wide numbers: differences, sizes, products. Wide numbers: times a number; as numbers of 64 bits. Wide numbers as numbers of 64 bits. Wide numbers, shifted by 16. How many bits a number has. One digit of a long quotient, by a guess that is mended: plain arithmetic. -/
import Derived.Test.YtibmhabipghjlaaGreatPlanHoldsZz11
import Derived.Test.YtibmhabipghjlaaGreatPlanHoldsZz8
import Derived.Laws.EntriesVeiled
import Derived.Laws.CopyOwn
import Derived.Test.YtibmhabipghjlaaGreatPlanHoldsZz1
import Derived.Deep.QuietTactic
import Derived.BigQuiet
import Derived.Test.YtibmhabipghjlaaGreatPlanHoldsZz2
import Derived.Test.YtibmhabipghjlaaGreatPlanHoldsZz5
import Derived.Laws.Externs
import Derived.Shelf.Spec.BitsCarry
import Derived.Lib.Mul64
import Derived.Laws.Bits64b
import Derived.Deep.RegionHeld3
import Derived.Deep.DeepCutAuto
import Derived.RegionTactic
import Derived.Deep.RegionWith
import Derived.Lib.BitFns
section
set_option linter.unusedVariables false
namespace Go.Proofs.YtibmhabipghjlaaGreat
open Go.RowKit
theorem sp_finds (nm : String) (f : FuncId) (h : ((Tryz.t53.methods.find? (fun x => x.name == nm)).map fun m => (m.path, m.func)) = some (#[], some (f, true))) : ∃ m, Tryz.t53.methods.find? (fun x => x.name == nm) = some m ∧ m.path = #[] ∧ m.func = some (f, true) := by
  obtain ⟨m, hm, e⟩ := Option.map_eq_some_iff.1 h
  injection e with e1 e2
  exact ⟨m, hm, e1, e2⟩
theorem sp_size (v : Value) (w : World) : (method 363 53 v "Size").run Tryz.prog w = .ok (203, v) w := by
  obtain ⟨m, hm, hp, hf⟩ := sp_finds "Size" 203 (by kernel_rfl)
  unfold method
  simp [follow, receiverAt, Place.get, hm, hp, hf]
theorem sp_channels (v : Value) (w : World) : (method 363 53 v "Channels").run Tryz.prog w = .ok (201, v) w := by
  obtain ⟨m, hm, hp, hf⟩ := sp_finds "Channels" 201 (by kernel_rfl)
  unfold method
  simp [follow, receiverAt, Place.get, hm, hp, hf]
theorem sp_read (v : Value) (w : World) : (method 363 53 v "Read").run Tryz.prog w = .ok (202, v) w := by
  obtain ⟨m, hm, hp, hf⟩ := sp_finds "Read" 202 (by kernel_rfl)
  unfold method
  simp [follow, receiverAt, Place.get, hm, hp, hf]
/-- Bytes in a block that a spy's calls leave alone. -/
def ByAt (w : World) (A : Option Addr) (L : List Int) : Prop := ∃ b o t cs, A = some ⟨b, o, none⟩ ∧ Bk w b t cs ∧ (t = 5 ∨ t = 100) ∧ ∀ i (h : i < L.length), cs[o + i]? = some (.int .u8 L[i])
theorem ByAt.kp {w w' : World} {A : Option Addr} {L : List Int} (h : ByAt w A L) (hk : Kp w w') : ByAt w' A L := by
  obtain ⟨b, o, t, cs, e, k, n1, hc⟩ := h
  exact ⟨b, o, t, cs, e, hk.keep _ _ _ k (by rcases n1 with e | e <;> subst e <;> decide) (by rcases n1 with e | e <;> subst e <;> decide), n1, hc⟩
theorem ByAt.rd {w : World} {A : Option Addr} {L : List Int} (h : ByAt w A L) : Rd w w.heap.size A (L.map (Value.int .u8)) := by
  obtain ⟨b, o, t, cs, rfl, k, n1, hc⟩ := h
  intro i hi
  rw [List.length_map] at hi
  refine ⟨b, o, rfl, k.lt, ?_⟩
  rw [k.cell, hc i hi, List.getElem_map]
/-- A spy whose tiles are all among some, at most m of them. -/
def SG (w0 : World) (g : Nat) (j : Jb) (TT : List Rn) (m : Nat) (w : World) : Prop := ∃ S, Spy w0 g j S w ∧ (∀ t ∈ S, t ∈ TT) ∧ S.length ≤ m
theorem SG.nx {w0 : World} {g : Nat} {j : Jb} {TT : List Rn} {m : Nat} {w w' : World} (h : SG w0 g j TT m w) (hb : Below w.heap.size w w') : SG w0 g j TT m w' := by
  obtain ⟨S, hs, h1, h2⟩ := h
  exact ⟨S, hs.nx hb, h1, h2⟩
theorem SG.more {w0 : World} {g : Nat} {j : Jb} {TT : List Rn} {m m' : Nat} {w : World} (h : SG w0 g j TT m w) (hm : m ≤ m') : SG w0 g j TT m' w := by
  obtain ⟨S, hs, h1, h2⟩ := h
  exact ⟨S, hs, h1, Nat.le_trans h2 hm⟩
abbrev vwS (g : Nat) (k sw sh mo c0 c1 c2 c3 : Int) : Array Value := #[.iface 53 (.pointer (some ⟨g, 0, none⟩)), .int .i64 k, .int .i64 sw, .int .i64 sh, .int .i64 mo, .int .u8 c0, .int .u8 c1, .int .u8 c2, .int .u8 c3]
/-- What pixel answers of a spy. -/
def PxS (w0 : World) (g : Nat) (j : Jb) (TT : List Rn) (m : Nat) (w : World) (e : Ending) (w' : World) : Prop :=
  ∃ (A : Option Addr) (n c : Nat) (L : List Int), e = .returned (.slice A n c) ∧ L.length = n ∧ 1 ≤ n ∧ n ≤ 4 ∧ n ≤ c ∧ ByAt w' A L ∧ (∀ b ∈ L, 0 ≤ b ∧ b ≤ 255) ∧ SG w0 g j TT (m + 1) w' ∧ Kp w w'
theorem Bk.cell9 {w : World} {g : Nat} {t : TypeId} {v0 v1 v2 v3 v4 v5 v6 v7 v8 : Value} (h : Bk w g t #[v0, v1, v2, v3, v4, v5, v6, v7, v8]) : w.cell? ⟨g, 0, none⟩ = some v0 ∧ w.cell? ⟨g, 1, none⟩ = some v1 ∧ w.cell? ⟨g, 2, none⟩ = some v2 ∧ w.cell? ⟨g, 3, none⟩ = some v3 ∧ w.cell? ⟨g, 4, none⟩ = some v4 ∧ w.cell? ⟨g, 5, none⟩ = some v5 ∧ w.cell? ⟨g, 6, none⟩ = some v6 ∧ w.cell? ⟨g, 7, none⟩ = some v7 ∧ w.cell? ⟨g, 8, none⟩ = some v8 :=
  ⟨by rw [h.cell]; rfl, by rw [h.cell]; rfl, by rw [h.cell]; rfl, by rw [h.cell]; rfl, by rw [h.cell]; rfl, by rw [h.cell]; rfl, by rw [h.cell]; rfl, by rw [h.cell]; rfl, by rw [h.cell]; rfl⟩
set_option maxRecDepth 100000 in
set_option maxHeartbeats 8000000 in
theorem ppix_any {w0 : World} {g : Nat} {j : Jb} {TT : List Rn} {m : Nat} {w : World} (h : SG w0 g j TT m w) (hj : JOk j) (k : Nat) (hk : k ≤ 15) (hm : m ≤ 100000) (mo c0 c1 c2 c3 x y : Int) (i0 : 0 ≤ c0 ∧ c0 ≤ 255) (i1 : 0 ≤ c1 ∧ c1 ≤ 255) (i2 : 0 ≤ c2 ∧ c2 ≤ 255) (i3 : 0 ≤ c3 ∧ c3 ≤ 255)
    (hx : -9223372036854775808 < x ∧ x ≤ 9223372036854775807) (hy : -9223372036854775808 < y ∧ y ≤ 9223372036854775807)
    (hgood : ∀ p q : Int, idx mo x (szI k j.W) = (p, true) → idx mo y (szI k j.H) = (q, true) → ((k : Int), tlI (szI k j.W) j.TW j.TH p q) ∈ TT) :
    Calls Tryz.prog 37 #[.agg (vwS g k (szI k j.W) (szI k j.H) mo c0 c1 c2 c3), .int .i64 x, .int .i64 y] w (PxS w0 g j TT m w) := by
  obtain ⟨hW, hH, hTW, hTH⟩ := grC_zero.1 hj.g
  have hWq := szI_bd k hW
  have hHq := szI_bd k hH
  have hX := fun w' => index_any mo x (szI k j.W) w' hx.1 hx.2 (by omega)
  have hY := fun w' => index_any mo y (szI k j.H) w' hy.1 hy.2 (by omega)
  have hbx := @idx_bd mo x (szI k j.W)
  have hby := @idx_bd mo y (szI k j.H)
  have hRd := fun (w' : World) (S : List Rn) (hs : Spy w0 g j S w') (p q : Int) hp hq (hS : S.length ≤ 100000) => spread_in hs hj k hk p q hp hq hS
  have hb0 := (Below.refl w.heap.size w).alloc (Nat.le_refl _) (.cells (vwS g k (szI k j.W) (szI k j.H) mo c0 c1 c2 c3) 100)
  have hK := Bk.new w 100 (vwS g k (szI k j.W) (szI k j.H) mo c0 c1 c2 c3)
  obtain ⟨p, o1, ep⟩ : ∃ p o1, idx mo x (szI k j.W) = (p, o1) := ⟨_, _, rfl⟩
  obtain ⟨q, o2, eq⟩ : ∃ q o2, idx mo y (szI k j.H) = (q, o2) := ⟨_, _, rfl⟩
  rw [ep] at hX hbx
  rw [eq] at hY hby
  simp only [ep, eq] at hgood
  clear ep eq hx hy hW hH hTW hTH hWq hHq
  have hG := Lib.hid hgood
  clear hgood
  generalize szI k j.W = sw at *
  generalize szI k j.H = sh at *
  have HC := Lib.hid (And.intro i0 (And.intro i1 (And.intro i2 i3)))
  clear i0 i1 i2 i3
  have hcol : ∀ b ∈ [c0, c1, c2, c3], 0 ≤ b ∧ b ≤ 255 := by
    obtain ⟨i0, i1, i2, i3⟩ := HC.out
    intro b hb
    simp at hb
    rcases hb with e | e | e | e <;> subst e <;> assumption
  have HCOL := Lib.hid hcol
  clear hcol HC
  have hM := fun (v : Value) (w : World) => sp_read v w
  have hfin : ∀ w', Below w.heap.size w w' → Bk w' w.heap.size 100 (vwS g k sw sh mo c0 c1 c2 c3) → PxS w0 g j TT m w (.returned (.slice (some ⟨w.heap.size, 5, none⟩) 4 4)) w' := fun w' hb hk' => by
    refine ⟨_, 4, 4, [c0, c1, c2, c3], rfl, rfl, by omega, by omega, by omega, ⟨_, 5, _, _, rfl, hk', .inr rfl, ?_⟩, HCOL.out, (h.nx hb).more (by omega), Kp.of_below hb⟩
    intro i hi
    have hi4 : i = 0 ∨ i = 1 ∨ i = 2 ∨ i = 3 := by simp at hi; omega
    rcases hi4 with e | e | e | e <;> subst e <;> rfl
  have HF := Lib.hid hfin
  clear hfin
  cases o1
  · obtain ⟨d0, d1, d2, d3, d4, d5, d6, d7, d8⟩ := hK.cell9
    go_enter Tryz.func37, Tryz.ntmps37
    go_wp2_with (first
      | (go_at_call 59; (with_reducible refine (hX _).mono ?_); rintro e w1 ⟨rfl, hb1⟩; have hK1 := hK.nx hb1; have hB1 := hb0.trans (hb1.mono hb0.size); obtain ⟨d0, d1, d2, d3, d4, d5, d6, d7, d8⟩ := hK1.cell9)
      | (go_at_call 59; (with_reducible refine (hY _).mono ?_); rintro e w2 ⟨rfl, hb2⟩; have hK2 := hK1.nx hb2; have hB2 := hB1.trans (hb2.mono hB1.size); obtain ⟨d0, d1, d2, d3, d4, d5, d6, d7, d8⟩ := hK2.cell9))
    go_returns
    exact HF.out _ hB2 hK2
  · cases o2
    · obtain ⟨d0, d1, d2, d3, d4, d5, d6, d7, d8⟩ := hK.cell9
      go_enter Tryz.func37, Tryz.ntmps37
      go_wp2_with (first
        | (go_at_call 59; (with_reducible refine (hX _).mono ?_); rintro e w1 ⟨rfl, hb1⟩; have hK1 := hK.nx hb1; have hB1 := hb0.trans (hb1.mono hb0.size); obtain ⟨d0, d1, d2, d3, d4, d5, d6, d7, d8⟩ := hK1.cell9)
        | (go_at_call 59; (with_reducible refine (hY _).mono ?_); rintro e w2 ⟨rfl, hb2⟩; have hK2 := hK1.nx hb2; have hB2 := hB1.trans (hb2.mono hB1.size); obtain ⟨d0, d1, d2, d3, d4, d5, d6, d7, d8⟩ := hK2.cell9))
      go_returns
      exact HF.out _ hB2 hK2
    · have hpx := hbx rfl
      have hqy := hby rfl
      simp only at hpx hqy
      have hgd := Lib.hid (hG.out p q rfl rfl)
      obtain ⟨S, hs, ht, hl⟩ := h
      obtain ⟨d0, d1, d2, d3, d4, d5, d6, d7, d8⟩ := hK.cell9
      go_enter Tryz.func37, Tryz.ntmps37
      go_wp2_with (first
        | (go_at_call 59; (with_reducible refine (hX _).mono ?_); rintro e w1 ⟨rfl, hb1⟩; have hK1 := hK.nx hb1; have hB1 := hb0.trans (hb1.mono hb0.size); obtain ⟨d0, d1, d2, d3, d4, d5, d6, d7, d8⟩ := hK1.cell9)
        | (go_at_call 59; (with_reducible refine (hY _).mono ?_); rintro e w2 ⟨rfl, hb2⟩; have hK2 := hK1.nx hb2; have hB2 := hB1.trans (hb2.mono hB1.size); obtain ⟨d0, d1, d2, d3, d4, d5, d6, d7, d8⟩ := hK2.cell9)
        | (go_at_call 202; (with_reducible refine (hRd _ S (hs.nx hB2) p q hpx hqy (Nat.le_trans hl hm)).mono ?_); rintro e w3 ⟨b, rfl, hkb, hs3, hkp⟩))
      go_returns
      refine ⟨_, 1, 1, [1], rfl, rfl, by omega, by omega, by omega, ⟨_, 0, _, _, rfl, hkb, .inl rfl, ?_⟩, ?_, ⟨_, hs3, ?_, ?_⟩, (Kp.of_below hB2).trans hkp⟩
      · intro i hi
        obtain rfl : i = 0 := by simpa using hi
        rfl
      · intro b hb
        simp at hb
        omega
      · intro t h1
        rw [List.mem_append] at h1
        rcases h1 with h1 | h1
        · exact ht t h1
        · rw [List.mem_singleton] at h1
          rw [h1]
          exact hgd.out
      · rw [List.length_append]
        simp
        omega
end Go.Proofs.YtibmhabipghjlaaGreat
end
section
set_option linter.unusedVariables false
namespace Go.Proofs.YtibmhabipghjlaaGreat
open Go.RowKit
theorem Kp.gb {w w3 w' : World} {G : Nat} (h : Kp w w3) (hg : w3.grownBy w' (some G)) (hG : w.heap.size ≤ G) : Kp w w' :=
  ⟨Nat.le_trans h.size hg.size, fun b t cs k n1 n2 => (h.keep b t cs k n1 n2).grown hg (fun e => by injection e with e; have := k.lt; omega)⟩
theorem Kp.bel {w w3 w' : World} (h : Kp w w3) (hb : Below w3.heap.size w3 w') : Kp w w' := h.trans (Kp.of_below hb)
theorem Spy.gb {w0 : World} {g : Nat} {j : Jb} {S : List Rn} {w w' : World} {G : Nat} {t : TypeId} {cs : Array Value} (h : Spy w0 g j S w) (hk : Bk w G t cs) (n1 : t ≠ 46) (n2 : t ≠ 55) (hg : w.grownBy w' (some G)) (hG : w0.heap.size ≤ G) : Spy w0 g j S w' := by
  obtain ⟨A, c, k, ho⟩ := h.row
  refine ⟨below_of_gb h.bel hg hG h.bel.size, h.lo, A, c, k.grown hg (fun e => by injection e with e; exact (hk.ne_Bk k n2) e.symm), ?_⟩
  refine ⟨ho.1, ?_⟩
  rcases ho.2 with h2 | ⟨g', cap, cur, hv, hg2, hh, r⟩
  · exact .inl h2
  · exact .inr ⟨g', cap, cur, hv, hg2, by rw [hg.block g' (Bk.lt hh) (fun e => by injection e with e; exact (hk.ne_Bk (t' := 46) (cs' := cur) hh n1) e.symm)]; exact hh, r⟩
theorem SG.gb {w0 : World} {g : Nat} {j : Jb} {TT : List Rn} {m : Nat} {w w' : World} {G : Nat} {t : TypeId} {cs : Array Value} (h : SG w0 g j TT m w) (hk : Bk w G t cs) (n1 : t ≠ 46) (n2 : t ≠ 55) (hg : w.grownBy w' (some G)) (hG : w0.heap.size ≤ G) : SG w0 g j TT m w' := by
  obtain ⟨S, hs, h1, h2⟩ := h
  exact ⟨S, hs.gb hk n1 n2 hg hG, h1, h2⟩
theorem SG.sz {w0 : World} {g : Nat} {j : Jb} {TT : List Rn} {m : Nat} {w : World} (h : SG w0 g j TT m w) : w0.heap.size ≤ w.heap.size := by
  obtain ⟨S, hs, _⟩ := h
  exact hs.bel.size
theorem ByAt.gb {w w' : World} {A : Option Addr} {L : List Int} {G : Nat} {t : TypeId} {cs : Array Value} (h : ByAt w A L) (hk : Bk w G t cs) (n1 : 5 ≠ t) (n2 : 100 ≠ t) (hg : w.grownBy w' (some G)) : ByAt w' A L := by
  obtain ⟨b, o, t', cs', e, k, hn, hc⟩ := h
  refine ⟨b, o, t', cs', e, k.grown hg (fun e => by injection e with e; exact (k.ne_Bk hk (by rcases hn with e | e <;> subst e <;> assumption)) e), hn, hc⟩
theorem eql_getS (F : Fn) (bs fr : Array Value) (w : World) : (binOp .eql 98 (.func F bs fr) .nilFunc).run Tryz.prog w = .ok (.bool false) w := by
  first | kernel_rfl | rfl
theorem co1_u8S : (Tryz.prog.info? 5).map (·.size) = some 1 := by kernel_rfl
theorem u8_infoS : (Tryz.prog.info? 5).map (fun i => (i.zero, i.size, i.bytes)) = some (some (.int .u8 0), 1, 1) := by kernel_rfl
set_option maxRecDepth 100000 in
set_option maxHeartbeats 8000000 in
theorem pnear_any {w0 : World} {g : Nat} {j : Jb} {TT : List Rn} {m : Nat} {w : World} (h : SG w0 g j TT m w) (vw : Array Value) (u v : Int) (hu : inF u = true) (hv : inF v = true)
    (hP : ∀ w', SG w0 g j TT m w' → Calls Tryz.prog 37 #[.agg vw, .int .i64 ((u + 32768) / 65536), .int .i64 ((v + 32768) / 65536)] w' (PxS w0 g j TT m w')) :
    Calls Tryz.prog 53 #[.func (.func 37) #[.agg vw] #[], .int .i64 1, .int .i64 u, .int .i64 v] w fun e w' => ∃ r, e = .returned r ∧ SG w0 g j TT (m + 1) w' ∧ Kp w w' := by
  have hin := fun (w' : World) => near_in u w'
  have hin2 := fun (w' : World) => near_in v w'
  rw [hu] at hin
  rw [hv] at hin2
  rw [inF_iff] at hu hv
  have hx1 := fun (w' : World) => near_index u w' hu.1 hu.2
  have hx2 := fun (w' : World) => near_index v w' hv.1 hv.2
  have hmk := fun W => run_make1 (P := Tryz.prog) Tryz.underlying59 u8_infoS rfl (1 : Int) 1 rfl (by omega) (by omega) W
  have hC1 : ¬ ((1 : Int) < 1) := by omega
  clear hu hv
  generalize (u + 32768) / 65536 = x at *
  generalize (v + 32768) / 65536 = y at *
  have hq := eql_getS (.func 37) #[.agg vw] #[]
  have hb0 := (Below.refl w.heap.size w).alloc (Nat.le_refl _) (.cells #[.int .u8 0] 5)
  have hs0 := h.nx hb0
  have hP' := hP _ hs0
  have hK0 := Bk.new w 5 #[.int .u8 0]
  have hz := h.sz
  clear hP
  go_enter Tryz.func53, Tryz.ntmps53
  go_wp2_with (first
    | (go_at_call 83; (with_reducible refine (hin _).mono ?_); rintro e w1 ⟨rfl, rfl⟩)
    | (go_at_call 83; (with_reducible refine (hin2 _).mono ?_); rintro e w1 ⟨rfl, rfl⟩)
    | (go_at_call 84; (with_reducible refine (hx1 _).mono ?_); rintro e w1 ⟨rfl, rfl⟩)
    | (go_at_call 84; (with_reducible refine (hx2 _).mono ?_); rintro e w1 ⟨rfl, rfl⟩)
    | (go_at_call 37; (with_reducible refine hP'.mono ?_); rintro e w3 ⟨A3, n3, c3', L3, rfl, hL3, hn1, hn4, hc3, ⟨b3, o3, t3, cs3, rfl, k3, n31, hcs3⟩, hbb, hs3, hk3⟩; have kK := hk3.keep _ _ _ hK0 (by decide) (by decide); have hl0 : 0 < L3.length := (by omega); have e3 := hcs3 0 hl0; rw [Nat.add_zero, ← k3.cell] at e3)
    | (refine wpList_copy_own rfl _ _ _ _ rfl 5 Tryz.underlying59 co1_u8S w.heap.size 0 1 1 ⟨b3, o3, none⟩ n3 c3' rfl rfl #[.int .u8 0] 5 kK [.int .u8 L3[0]] (show 1 = Nat.min n3 1 from (Nat.min_eq_right hn1).symm) (fun i v hv => by
        rcases i with _ | i
        · rw [List.getElem?_cons_zero] at hv
          injection hv with hv
          rw [← hv]
          exact e3
        · cases hv) (show 0 + 1 ≤ 1 from Nat.le_refl _) (fun v hv => by rw [List.mem_singleton] at hv; rw [hv]; rfl) ?_))
  have hgr := grown_setRow w3 w.heap.size #[.int .u8 L3[0]]
  go_wp2_with fail
  go_returns
  exact ⟨_, rfl, hs3.gb kK (by decide) (by decide) hgr hz, ((Kp.of_below hb0).trans hk3).gb hgr (Nat.le_refl _)⟩
end Go.Proofs.YtibmhabipghjlaaGreat
end
section
set_option linter.unusedVariables false
namespace Go.Proofs.YtibmhabipghjlaaGreat
open Go.RowKit
def nearZ (a b : Int) : Int := (2 * a + b) / (2 * b)
theorem near_parts {a b : Int} (hb : 0 < b) : nearZ a b = if a % b < b - a % b then a / b else a / b + 1 := by
  have e := Int.mul_ediv_add_emod a b
  have e1 := Int.emod_nonneg a (show b ≠ 0 by omega)
  have e2 := Int.emod_lt_of_pos a hb
  have hu : ∀ q : Int, q * (2 * b) ≤ 2 * a + b → 2 * a + b < q * (2 * b) + 2 * b → nearZ a b = q := fun q h1 h2 => by
    unfold nearZ
    have h3 : q ≤ (2 * a + b) / (2 * b) := Int.le_ediv_of_mul_le (by omega) h1
    have h4 : (2 * a + b) / (2 * b) < q + 1 := Int.ediv_lt_of_lt_mul (by omega) (by rw [Int.add_mul]; omega)
    omega
  have hm : a / b * (2 * b) = 2 * (b * (a / b)) := by rw [Int.mul_comm (a / b), Int.mul_assoc]
  split
  · refine hu _ ?_ ?_ <;> rw [hm] <;> omega
  · refine hu _ ?_ ?_ <;> rw [Int.add_mul, hm] <;> omega
/-- A sum as a byte. -/
def byteZ (a b : Int) : Int := max 0 (min (nearZ a b) 255)
theorem byteZ_bd (a b : Int) : 0 ≤ byteZ a b ∧ byteZ a b ≤ 255 := by unfold byteZ; omega
/-- The first so many products, together. -/
def dotK (a b : List Int) : Nat → Int
  | 0 => 0
  | k + 1 => dotK a b k + a.getD k 0 * b.getD k 0
theorem dotK_bd {a b : List Int} {M : Int} (hM : 0 ≤ M) (h : ∀ k, -M ≤ a.getD k 0 * b.getD k 0 ∧ a.getD k 0 * b.getD k 0 ≤ M) : ∀ k : Nat, -(k * M) ≤ dotK a b k ∧ dotK a b k ≤ k * M
  | 0 => by simp [dotK]
  | k + 1 => by
    have ih := dotK_bd hM h k
    have hk := h k
    have e : ((k + 1 : Nat) : Int) * M = k * M + M := by rw [Int.natCast_add, Int.add_mul]; simp
    rw [e]
    simp only [dotK]
    omega
/-- A channel of several pixels. -/
def chan (Ls : List (List Int)) (k : Nat) : List Int := Ls.map fun l => l.getD k 0
theorem mulU_bd {a v M : Int} (hM : 0 ≤ M) (ha : -M ≤ a ∧ a ≤ M) (hv : 0 ≤ v ∧ v ≤ 255) : -(M * 255) ≤ a * v ∧ a * v ≤ M * 255 := by
  have h1 : a * v ≤ M * v := Int.mul_le_mul_of_nonneg_right ha.2 hv.1
  have h2 : -M * v ≤ a * v := Int.mul_le_mul_of_nonneg_right ha.1 hv.1
  have h3 : M * v ≤ M * 255 := Int.mul_le_mul_of_nonneg_left hv.2 hM
  rw [Int.neg_mul] at h2
  omega
end Go.Proofs.YtibmhabipghjlaaGreat
end
section
set_option linter.unusedVariables false
namespace Go.Proofs.YtibmhabipghjlaaGreat
open Go.RowKit
theorem getD_lt {l : List Int} {k : Nat} (h : k < l.length) : l[k] = l.getD k 0 := by rw [List.getD_eq_getElem?_getD, List.getElem?_eq_getElem h]; rfl
set_option maxRecDepth 100000 in
set_option maxHeartbeats 4000000 in
/-- Weights with bytes, so many of both. -/
theorem wmix_any (a b : List Int) (A A' : Option Addr) (n c c' : Nat) (w : World) {B B' : Nat} {M : Int} (ha : a.length = n) (hb : b.length = n) (hn : n ≤ 16) (hA : Rd w B A (a.map (Value.int .i64))) (hA' : Rd w B' A' (b.map (Value.int .u8))) (hM : 0 ≤ M) (hM2 : M ≤ 288230376151711744) (h : ∀ k, -M ≤ a.getD k 0 * b.getD k 0 ∧ a.getD k 0 * b.getD k 0 ≤ M) (hv : ∀ k, 0 ≤ b.getD k 0 ∧ b.getD k 0 ≤ 255) :
    Calls Tryz.prog 118 #[.slice A n c, .slice A' n c'] w fun e w' => e = .returned (.int .i64 (dotK a b n)) ∧ Below w.heap.size w w' := by
  have hD := fun k => dotK_bd hM h k
  have HA := Lib.hid ha
  have HB := Lib.hid hb
  have HV := Lib.hid hv
  have HP := Lib.hid h
  have HDD := Lib.hid hD
  clear ha hb h hv hD
  go_enter Tryz.func118, Tryz.ntmps118
  go_wp2_with fail
  go_loopw [5, 12] (fun s i wr => ∃ k : Nat, k ≤ n ∧ i = .int .i64 k ∧ s = .int .i64 (dotK a b k) ∧ ∃ m, wr = w.drewN m) (fun _ i _ => n - (intOf i).toNat)
  case atStart => exact ⟨0, by omega, rfl, rfl, 0, rfl⟩
  case round =>
    obtain ⟨k, hk, rfl, rfl, m, rfl⟩ := hrel
    by_cases hlt : k < n
    · have hka : k < (a.map (Value.int .i64)).length := by rw [List.length_map, HA.out]; exact hlt
      have hkb : k < (b.map (Value.int .u8)).length := by rw [List.length_map, HB.out]; exact hlt
      obtain ⟨b1, o1, rfl, _, hc1⟩ := hA.get k hka
      obtain ⟨b2, o2, rfl, _, hc2⟩ := hA'.get k hkb
      rw [List.getElem_map, getD_lt] at hc1 hc2
      have hdk := HDD.out k
      have hpk := HP.out k
      have hvk := HV.out k
      have HS : Hid (dotK a b (k + 1) = dotK a b k + a.getD k 0 * b.getD k 0) := rfl
      have hkM : (k : Int) * M ≤ 15 * M := Int.mul_le_mul_of_nonneg_right (by omega) hM
      generalize a.getD k 0 = x at *
      generalize b.getD k 0 = y at *
      obtain ⟨z, hz⟩ : ∃ z, x * y = z := ⟨_, rfl⟩
      rw [hz] at hpk HS
      have v1 : wrap64 (x * y) = z := by rw [hz]; exact IntWalk.wrap64_in _ ⟨by omega, by omega⟩
      generalize dotK a b k = d at *
      have v3 : wrap64 y = y := IntWalk.wrap64_in _ ⟨by omega, by omega⟩
      have v2 : wrap64 (d + z) = d + z := IntWalk.wrap64_in _ ⟨by omega, by omega⟩
      clear hz hdk hpk hvk hkM hM hM2
      go_wp2_with fail
      go_quiet (fail)
      go_wp2_with fail
      exact ⟨⟨k + 1, by omega, by go_num, by rw [HS.out, v2], _, rfl⟩, by simp [intOf]; omega⟩
    · obtain rfl : k = n := by omega
      go_wp2_with fail
      go_returns
      exact ⟨rfl, below_drewN (Below.refl _ _) m⟩
end Go.Proofs.YtibmhabipghjlaaGreat
end
section
set_option linter.unusedVariables false
namespace Go.Proofs.YtibmhabipghjlaaGreat
open Go.RowKit
theorem and16 (u : Int) (h0 : -9223372036854775808 ≤ u) (h1 : u ≤ 9223372036854775807) : bits .and .i64 u 65535 = u % 65536 := by
  have e : bits .and .i64 u 65535 = IntKind.i64.wrap (((BitVec.ofInt 64 u &&& BitVec.ofInt 64 65535).toNat : Nat) : Int) := rfl
  rw [e, BitVec.toNat_and]
  have e1 : (BitVec.ofInt 64 65535).toNat = 2 ^ 16 - 1 := by decide
  rw [e1, Nat.and_two_pow_sub_one_eq_mod, BitVec.toNat_ofInt]
  have e2 : (((u % ((2 ^ 64 : Nat) : Int)).toNat % 2 ^ 16 : Nat) : Int) = u % 65536 := by
    have h2 := Int.emod_nonneg u (show (18446744073709551616 : Int) ≠ 0 by omega)
    have h3 : ((u % ((2 ^ 64 : Nat) : Int)).toNat : Int) = u % 18446744073709551616 := by
      rw [show ((2 ^ 64 : Nat) : Int) = 18446744073709551616 from rfl]; omega
    rw [Int.natCast_emod, h3]
    show u % 18446744073709551616 % ((2 ^ 16 : Nat) : Int) = _
    rw [show ((2 ^ 16 : Nat) : Int) = 65536 from rfl]
    omega
  rw [e2]
  exact IntWalk.i64_in _ ⟨by omega, by omega⟩
theorem shr16w (x : Int) (s : Nat) (hs : s = 16) : x >>> s = x / 65536 := by
  subst hs; rw [Int.shiftRight_eq_div_pow]; rfl
theorem wsplit_any (u : Int) (w : World) (h0 : -9223372036854775808 ≤ u) (h1 : u ≤ 9223372036854775807) : Calls Tryz.prog 88 #[.int .i64 u] w fun e w' => e = .returned (.tuple #[.int .i64 (u / 65536), .int .i64 (u % 65536)]) ∧ w = w' := by
  have ha := and16 u h0 h1
  go_enter Tryz.func88, Tryz.ntmps88
  go_wp2_with fail
  go_returns
  exact ⟨by first | rfl | (rw [shr16w _ _ rfl]), rfl⟩
/-- The polynomials. -/
def cub (i : Nat) (t : Int) : Int := match i with
  | 0 => -(t * t * t) + 2 * 256 * (t * t) - 65536 * t
  | 1 => 3 * (t * t * t) - 5 * 256 * (t * t) + 2 * 16777216
  | 2 => -3 * (t * t * t) + 4 * 256 * (t * t) + 65536 * t
  | _ => t * t * t - 256 * (t * t)
end Go.Proofs.YtibmhabipghjlaaGreat
end
section
set_option linter.unusedVariables false
namespace Go.Proofs.YtibmhabipghjlaaGreat
open Go.RowKit
theorem w2_size : (Tryz.prog.info? 50).map (·.size) = some 2 := by kernel_rfl
theorem w4_size : (Tryz.prog.info? 146).map (·.size) = some 4 := by kernel_rfl
theorem wlin_any (f : Int) (w : World) (h0 : 0 ≤ f) (h1 : f ≤ 65536) : Calls Tryz.prog 116 #[.int .i64 f] w fun e w' => e = .returned (.tuple #[.agg #[.int .i64 (65536 - f), .int .i64 f], .int .i64 0]) ∧ Below w.heap.size w w' := by
  have hb := (Below.refl w.heap.size w).alloc (Nat.le_refl _) (.cells #[.int .i64 0, .int .i64 0] 50)
  have hK := Bk.new w 50 #[.int .i64 0, .int .i64 0]
  go_enter Tryz.func116, Tryz.ntmps116
  go_wp2_with (refine stB (ty := 50) (cells := #[.int .i64 (65536 - f), .int .i64 f]) rfl _ _ rfl hK rfl rfl w2_size rfl (by simp [Value.oneCell']) ?_; intro w' hK' hg' _)
  refine bodyPost_ret (res_cell_tmp rfl hK' rfl Tryz.underlying50 rfl w2_size) rfl ?_
  exact ⟨rfl, below_of_gb hb hg' (Nat.le_refl _) hb.size⟩
theorem cat_any (a b c d t : Int) (w : World) (ha : -5 ≤ a ∧ a ≤ 5) (hb : -5 ≤ b ∧ b ≤ 5) (hc : -5 ≤ c ∧ c ≤ 5) (hd : -5 ≤ d ∧ d ≤ 5) (h0 : 0 ≤ t) (h1 : t ≤ 256) : Calls Tryz.prog 161 #[.agg #[.int .i64 a, .int .i64 b, .int .i64 c, .int .i64 d], .int .i64 t] w fun e w' => e = .returned (.int .i64 (((a * t + b * 256) * t + c * 256 * 256) * t + d * 256 * 256 * 256)) ∧ Below w.heap.size w w' := by
  obtain ⟨ha0, ha1⟩ := ha
  obtain ⟨hb0, hb1⟩ := hb
  obtain ⟨hc0, hc1⟩ := hc
  obtain ⟨hd0, hd1⟩ := hd
  have m1 : -1280 ≤ a * t ∧ a * t ≤ 1280 := by
    have e1 : a * t ≤ 5 * t := Int.mul_le_mul_of_nonneg_right ha1 h0
    have e2 : -5 * t ≤ a * t := Int.mul_le_mul_of_nonneg_right ha0 h0
    omega
  obtain ⟨y, hy⟩ : ∃ y, a * t = y := ⟨_, rfl⟩
  rw [hy] at m1
  obtain ⟨m10, m11⟩ := m1
  have m2 : -655360 ≤ (y + b * 256) * t ∧ (y + b * 256) * t ≤ 655360 := by
    have e1 : (y + b * 256) * t ≤ 2560 * t := Int.mul_le_mul_of_nonneg_right (by omega) h0
    have e2 : -2560 * t ≤ (y + b * 256) * t := Int.mul_le_mul_of_nonneg_right (by omega) h0
    omega
  obtain ⟨z, hz⟩ : ∃ z, (y + b * 256) * t = z := ⟨_, rfl⟩
  rw [hz] at m2
  obtain ⟨m20, m21⟩ := m2
  have m3 : -251658240 ≤ (z + c * 256 * 256) * t ∧ (z + c * 256 * 256) * t ≤ 251658240 := by
    have e1 : (z + c * 256 * 256) * t ≤ 983040 * t := Int.mul_le_mul_of_nonneg_right (by omega) h0
    have e2 : -983040 * t ≤ (z + c * 256 * 256) * t := Int.mul_le_mul_of_nonneg_right (by omega) h0
    omega
  obtain ⟨x, hx⟩ : ∃ x, (z + c * 256 * 256) * t = x := ⟨_, rfl⟩
  rw [hx] at m3
  obtain ⟨m30, m31⟩ := m3
  have v1 : wrap64 (a * t) = y := by rw [hy]; exact IntWalk.wrap64_in _ ⟨by omega, by omega⟩
  have v2 : wrap64 ((y + b * 256) * t) = z := by rw [hz]; exact IntWalk.wrap64_in _ ⟨by omega, by omega⟩
  have v3 : wrap64 ((z + c * 256 * 256) * t) = x := by rw [hx]; exact IntWalk.wrap64_in _ ⟨by omega, by omega⟩
  rw [hy, hz, hx]
  clear hy hz hx
  go_enter Tryz.func161, Tryz.ntmps161
  go_wp2_with fail
  go_returns
  exact ⟨rfl, by go_grown⟩
end Go.Proofs.YtibmhabipghjlaaGreat
end
section
set_option linter.unusedVariables false
namespace Go.Proofs.YtibmhabipghjlaaGreat
open Go.RowKit
/-- v is a slice whose first bytes are these. -/
def SlP (C : Nat) (lo : Nat) (w : World) (v : Value) (px : List Int) : Prop :=
  ∃ (A : Option Addr) (n c : Nat) (L : List Int), v = .slice A n c ∧ L.length = n ∧ RdL w lo A (L.map (Value.int .u8)) ∧ C ≤ n ∧ n ≤ 4 ∧ n ≤ c ∧ L.take C = px
section
variable {C lo : Nat} {w w' : World} {v : Value} {px : List Int}
theorem SlP.keep (h : SlP C lo w v px) (hz : w.heap.size ≤ w'.heap.size) (hk : ∀ p : Addr, lo ≤ p.block → p.block < w.heap.size → w'.cell? p = w.cell? p) : SlP C lo w' v px := by
  obtain ⟨A, n, c, L, h1, h2, h3, h4⟩ := h
  exact ⟨A, n, c, L, h1, h2, h3.keep hz hk, h4⟩
theorem SlP.nx (h : SlP C lo w v px) (hb : Below w.heap.size w w') : SlP C lo w' v px := h.keep hb.size fun p _ hp => hb.cell hp
theorem SlP.set (h : SlP C lo w v px) {g i : Nat} (hg : g < lo) (u : Value) : SlP C lo (w.setCell ⟨g, i, none⟩ u) v px :=
  h.keep (by simp) fun p hp _ => World.cell?_setCell_other w ⟨g, i, none⟩ p u (fun e => by subst e; exact absurd hp (by simpa using hg))
theorem SlP.gb (h : SlP C lo w v px) {g : Nat} (hg : g < lo) (hb : w.grownBy w' (some g)) : SlP C lo w' v px :=
  h.keep hb.size fun p hp hp2 => World.cell?_of_block (hb.block p.block hp2 (fun e => by injection e with e; omega))
theorem SlP.less (h : SlP C lo w v px) {lo' : Nat} (hl : lo' ≤ lo) : SlP C lo' w v px := by
  obtain ⟨A, n, c, L, h1, h2, h3, h4⟩ := h
  exact ⟨A, n, c, L, h1, h2, h3.less hl, h4⟩
end
/-- What lies in an 'around' after so many rounds. -/
def lkA (S : Nat → Value) (p : Nat → Int) (k : Nat) : Array Value :=
  let s := fun j => if j < k then S j else .slice none 0 0
  let q := fun j => Value.int .i64 (if j < k then p j else 0)
  #[s 0, s 1, s 2, s 3, q 0, q 1, q 2, q 3]
theorem ar_size : (Tryz.prog.info? 148).map (·.size) = some 8 := by kernel_rfl
/-- The four weights. -/
def w4 (f g : Int) (j : Nat) : Int := (if j % 2 = 0 then 65536 - f else f) * (if j / 2 = 0 then 65536 - g else g)
theorem w4_bd {f g : Int} (hf : 0 ≤ f ∧ f ≤ 65535) (hg : 0 ≤ g ∧ g ≤ 65535) (j : Nat) : 0 ≤ w4 f g j ∧ w4 f g j ≤ 4294967296 := by
  unfold w4
  have hx : ∀ a b : Int, 0 ≤ a → a ≤ 65536 → 0 ≤ b → b ≤ 65536 → 0 ≤ a * b ∧ a * b ≤ 4294967296 := fun a b h1 h2 h3 h4 => ⟨Int.mul_nonneg h1 h3, by have := Int.mul_le_mul h2 h4 h3 (by omega); omega⟩
  split <;> split <;> exact hx _ _ (by omega) (by omega) (by omega) (by omega)
theorem lk0 (S : Nat → Value) (p : Nat → Int) : lkA S p 0 = #[.slice none 0 0, .slice none 0 0, .slice none 0 0, .slice none 0 0, .int .i64 0, .int .i64 0, .int .i64 0, .int .i64 0] := by simp [lkA]
theorem lk1 (S : Nat → Value) (p : Nat → Int) : lkA S p 1 = #[S 0, .slice none 0 0, .slice none 0 0, .slice none 0 0, .int .i64 (p 0), .int .i64 0, .int .i64 0, .int .i64 0] := by simp [lkA]
theorem lk2 (S : Nat → Value) (p : Nat → Int) : lkA S p 2 = #[S 0, S 1, .slice none 0 0, .slice none 0 0, .int .i64 (p 0), .int .i64 (p 1), .int .i64 0, .int .i64 0] := by simp [lkA]
theorem lk3 (S : Nat → Value) (p : Nat → Int) : lkA S p 3 = #[S 0, S 1, S 2, .slice none 0 0, .int .i64 (p 0), .int .i64 (p 1), .int .i64 (p 2), .int .i64 0] := by simp [lkA]
theorem lk4 (S : Nat → Value) (p : Nat → Int) : lkA S p 4 = #[S 0, S 1, S 2, S 3, .int .i64 (p 0), .int .i64 (p 1), .int .i64 (p 2), .int .i64 (p 3)] := by simp [lkA]
theorem lkA_up {S : Nat → Value} {p : Nat → Int} {k : Nat} (v : Value) (hk : k < 4) : ((lkA S p k).setIfInBounds k v).setIfInBounds (4 + k) (.int .i64 (p k)) = lkA (fun j => if j = k then v else S j) p (k + 1) := by
  have : k = 0 ∨ k = 1 ∨ k = 2 ∨ k = 3 := by omega
  rcases this with rfl | rfl | rfl | rfl <;> simp [lkA]
theorem lk_ok {S : Nat → Value} {p : Nat → Int} (h : ∀ j, j < 4 → ∃ A n c, S j = .slice A n c) : (lkA S p 4).all (·.oneCell') = true := by
  obtain ⟨A0, n0, c0, e0⟩ := h 0 (by omega)
  obtain ⟨A1, n1, c1, e1⟩ := h 1 (by omega)
  obtain ⟨A2, n2, c2, e2⟩ := h 2 (by omega)
  obtain ⟨A3, n3, c3, e3⟩ := h 3 (by omega)
  simp [lkA, e0, e1, e2, e3, Value.oneCell']
end Go.Proofs.YtibmhabipghjlaaGreat
end
section
set_option linter.unusedVariables false
namespace Go.Proofs.YtibmhabipghjlaaGreat
open Go.RowKit
theorem run_add (x y c : Int) (hx : 0 ≤ x) (hy : 0 ≤ y) (hc0 : 0 ≤ c) (hc : c ≤ 1) (w : World) :
    (callFunc 178 #[.int .u64 x, .int .u64 y, .int .u64 c]).run Tryz.prog w = .ok (.value (.tuple #[.int .u64 ((x + y + c) % 18446744073709551616), .int .u64 ((x + y + c) / 18446744073709551616)])) w := by
  rw [run_callFunc_extern Tryz.func178 (by kernel_rfl) (by kernel_rfl) (by kernel_rfl) (e := add64Entry) (by kernel_rfl), run_add64 x y c hx hy hc0 hc]
  rfl
theorem run_subN (x y c : Nat) (hc : c ≤ 1) (w : World) :
    (callFunc 181 #[.int .u64 x, .int .u64 y, .int .u64 c]).run Tryz.prog w = .ok (.value (.tuple #[.int .u64 (((x + 18446744073709551616 - y - c) % 18446744073709551616 : Nat) : Int), .int .u64 ((if x < y + c then 1 else 0 : Nat) : Int)])) w := by
  rw [run_callFunc_extern Tryz.func181 (by kernel_rfl) (by kernel_rfl) (by kernel_rfl) (e := sub64Entry) (by kernel_rfl), run_sub64 x y c hc]
  rfl
theorem run_add' {x y c s d : Int} (hx : 0 ≤ x) (hy : 0 ≤ y) (hc0 : 0 ≤ c) (hc : c ≤ 1) (hs : (x + y + c) % 18446744073709551616 = s) (hd : (x + y + c) / 18446744073709551616 = d) (w : World) :
    (callFunc 178 #[.int .u64 x, .int .u64 y, .int .u64 c]).run Tryz.prog w = .ok (.value (.tuple #[.int .u64 s, .int .u64 d])) w := by
  rw [run_add x y c hx hy hc0 hc w, hs, hd]
theorem run_sub' {x y c s d : Int} (hx : 0 ≤ x) (hy : 0 ≤ y) (hx2 : x < 18446744073709551616) (hy2 : y < 18446744073709551616) (hc0 : 0 ≤ c) (hc : c ≤ 1) (hs : (x - y - c) % 18446744073709551616 = s) (hd : (if x < y + c then 1 else 0 : Int) = d) (w : World) :
    (callFunc 181 #[.int .u64 x, .int .u64 y, .int .u64 c]).run Tryz.prog w = .ok (.value (.tuple #[.int .u64 s, .int .u64 d])) w := by
  obtain ⟨x, rfl⟩ := Int.eq_ofNat_of_zero_le hx
  obtain ⟨y, rfl⟩ := Int.eq_ofNat_of_zero_le hy
  obtain ⟨c, rfl⟩ := Int.eq_ofNat_of_zero_le hc0
  have e1 : (((x + 18446744073709551616 - y - c) % 18446744073709551616 : Nat) : Int) = s := by omega
  have e2 : ((if x < y + c then 1 else 0 : Nat) : Int) = d := by rw [← hd]; split <;> split <;> omega
  rw [run_subN x y c (by omega) w, e1, e2]
/-- A wide number's upper and lower half. -/
def hi6 (z : Int) : Int := z / 18446744073709551616
def lo6 (z : Int) : Int := z % 18446744073709551616
abbrev WV (z : Int) : Value := .agg #[.int .i64 (hi6 z), .int .u64 (lo6 z)]
/-- A wide number has room. -/
def Wd (z : Int) : Prop := -170141183460469231731687303715884105728 ≤ z ∧ z < 170141183460469231731687303715884105728
def J64 (z : Int) : Prop := -9223372036854775808 ≤ z ∧ z < 9223372036854775808
/-- What the walk wants to know of a wide number's halves. -/
structure WH (z : Int) : Prop where
  l0 : 0 ≤ lo6 z
  s : hi6 z < 0 ↔ z < 0
theorem wh (z : Int) : WH z := ⟨by unfold lo6; omega, by unfold hi6; omega⟩
theorem hi_bd {z : Int} (h : Wd z) : J64 (hi6 z) := by unfold Wd at h; unfold J64 hi6; omega
theorem hi0 : hi6 0 = 0 := by decide
theorem lo0 : lo6 0 = 0 := by decide
theorem uw (x : Int) : IntKind.u64.wrap x = x % 18446744073709551616 := by rw [IntKind.wrap_u64]
theorem w64 (x : Int) : wrap64 x = (x + 9223372036854775808) % 18446744073709551616 - 9223372036854775808 := by unfold wrap64; rfl
set_option maxHeartbeats 1000000 in
theorem wof_any (x : Int) (w : World) (hx : J64 x) : Calls Tryz.prog 158 #[.int .i64 x] w fun e w' => e = .returned (WV x) ∧ Below w.heap.size w w' := by
  have e1 : IntKind.u64.wrap x = lo6 x := by rw [uw]; rfl
  have e2 : x / 9223372036854775808 = hi6 x := by unfold hi6; unfold J64 at hx; omega
  have e3 : x >>> 63 = hi6 x := by rw [Int.shiftRight_eq_div_pow]; exact e2
  clear hx
  go_enter Tryz.func158, Tryz.ntmps158
  go_wp2
  go_returns
  exact ⟨rfl, by go_grown⟩
def sgn (z : Int) : Int := if z < 0 then -1 else if z = 0 then 0 else 1
theorem add_facts {a b : Int} (ha : Wd a) (hb : Wd b) (hs : Wd (a + b)) : ∃ ua ub c uh d : Int, IntKind.u64.wrap (hi6 a) = ua ∧ IntKind.u64.wrap (hi6 b) = ub ∧
    (∀ w, (callFunc 178 #[.int .u64 (lo6 a), .int .u64 (lo6 b), .int .u64 0]).run Tryz.prog w = .ok (.value (.tuple #[.int .u64 (lo6 (a + b)), .int .u64 c])) w) ∧
    (∀ w, (callFunc 178 #[.int .u64 ua, .int .u64 ub, .int .u64 c]).run Tryz.prog w = .ok (.value (.tuple #[.int .u64 uh, .int .u64 d])) w) ∧ wrap64 uh = hi6 (a + b) := by
  unfold Wd at ha hb hs
  refine ⟨_, _, (lo6 a + lo6 b) / 18446744073709551616, (hi6 a % 18446744073709551616 + hi6 b % 18446744073709551616 + (lo6 a + lo6 b) / 18446744073709551616) % 18446744073709551616, (hi6 a % 18446744073709551616 + hi6 b % 18446744073709551616 + (lo6 a + lo6 b) / 18446744073709551616) / 18446744073709551616, uw _, uw _, fun w => run_add' (by unfold lo6; omega) (by unfold lo6; omega) (by omega) (by omega) (by unfold lo6; omega) (by rw [Int.add_zero]) w, fun w => run_add' (by omega) (by omega) (by unfold lo6; omega) (by unfold lo6; omega) rfl rfl w, ?_⟩
  rw [w64]; unfold lo6 hi6; omega
set_option maxRecDepth 100000 in
set_option maxHeartbeats 4000000 in
theorem wadd_any (a b : Int) (w : World) (ha : Wd a) (hb : Wd b) (hs : Wd (a + b)) :
    Calls Tryz.prog 172 #[WV a, WV b] w fun e w' => e = .returned (.tuple #[WV (a + b), .bool true]) ∧ Below w.heap.size w w' := by
  obtain ⟨ua, ub, c, uh, d, e1, e2, e3, e4, e5⟩ := add_facts ha hb hs
  have ka := (wh a).s
  have kb := (wh b).s
  have ks := (wh (a + b)).s
  have hor : (hi6 a < 0 ∧ 0 ≤ hi6 b) ∨ (0 ≤ hi6 a ∧ hi6 b < 0) ∨ (hi6 a < 0 ∧ hi6 b < 0 ∧ hi6 (a + b) < 0) ∨ (0 ≤ hi6 a ∧ 0 ≤ hi6 b ∧ 0 ≤ hi6 (a + b)) := by omega
  clear ka kb ks ha hb hs
  rcases hor with ⟨h1, h2⟩ | ⟨h1, h2⟩ | ⟨h1, h2, h3⟩ | ⟨h1, h2, h3⟩
  all_goals
    first | have d1 : decide (hi6 a < 0) = true := decide_eq_true h1 | have d1 : decide (hi6 a < 0) = false := decide_eq_false (by omega)
    first | have d2 : decide (hi6 b < 0) = true := decide_eq_true h2 | have d2 : decide (hi6 b < 0) = false := decide_eq_false (by omega)
    first | have d3 : decide (hi6 (a + b) < 0) = true := decide_eq_true h3 | have d3 : decide (hi6 (a + b) < 0) = false := decide_eq_false (by omega) | have d3 : True := trivial
    go_enter Tryz.func172, Tryz.ntmps172
    go_wp2
    go_returns
    exact ⟨rfl, by go_grown⟩
end Go.Proofs.YtibmhabipghjlaaGreat
end
section
set_option linter.unusedVariables false
namespace Go.Proofs.YtibmhabipghjlaaGreat
open Go.RowKit
theorem sub_facts {a b : Int} (ha : Wd a) (hb : Wd b) (hs : Wd (a - b)) : ∃ ua ub c uh d : Int, IntKind.u64.wrap (hi6 a) = ua ∧ IntKind.u64.wrap (hi6 b) = ub ∧
    (∀ w, (callFunc 181 #[.int .u64 (lo6 a), .int .u64 (lo6 b), .int .u64 0]).run Tryz.prog w = .ok (.value (.tuple #[.int .u64 (lo6 (a - b)), .int .u64 c])) w) ∧
    (∀ w, (callFunc 181 #[.int .u64 ua, .int .u64 ub, .int .u64 c]).run Tryz.prog w = .ok (.value (.tuple #[.int .u64 uh, .int .u64 d])) w) ∧ wrap64 uh = hi6 (a - b) := by
  unfold Wd at ha hb hs
  refine ⟨_, _, if lo6 a < lo6 b then 1 else 0, (hi6 a % 18446744073709551616 - hi6 b % 18446744073709551616 - (if lo6 a < lo6 b then 1 else 0)) % 18446744073709551616, _, uw _, uw _, fun w => run_sub' (by unfold lo6; omega) (by unfold lo6; omega) (by unfold lo6; omega) (by unfold lo6; omega) (by omega) (by omega) (by unfold lo6; omega) (by rw [Int.add_zero]) w, fun w => run_sub' (by omega) (by omega) (by omega) (by omega) (by split <;> omega) (by split <;> omega) rfl rfl w, ?_⟩
  rw [w64]; unfold lo6 hi6; split <;> omega
def ab (x : Int) : Int := if x < 0 then -x else x
abbrev SV (z : Int) : Value := .agg #[.int .u64 (hi6 z), .int .u64 (lo6 z)]
theorem minus_facts {z : Int} (h0 : 0 ≤ z) (h1 : Wd z) : ∃ c uh d : Int,
    (∀ w, (callFunc 181 #[.int .u64 0, .int .u64 (lo6 z), .int .u64 0]).run Tryz.prog w = .ok (.value (.tuple #[.int .u64 (lo6 (-z)), .int .u64 c])) w) ∧
    (∀ w, (callFunc 181 #[.int .u64 0, .int .u64 (hi6 z), .int .u64 c]).run Tryz.prog w = .ok (.value (.tuple #[.int .u64 uh, .int .u64 d])) w) ∧ wrap64 uh = hi6 (-z) := by
  unfold Wd at h1
  refine ⟨if 0 < lo6 z then 1 else 0, (0 - hi6 z - (if 0 < lo6 z then 1 else 0)) % 18446744073709551616, _, fun w => run_sub' (by omega) (by unfold lo6; omega) (by omega) (by unfold lo6; omega) (by omega) (by omega) (by unfold lo6; omega) (by rw [Int.add_zero]) w, fun w => run_sub' (by omega) (by unfold hi6; omega) (by omega) (by unfold hi6; omega) (by split <;> omega) (by split <;> omega) rfl rfl w, ?_⟩
  rw [w64]; unfold lo6 hi6; split <;> omega
theorem wd_size : (Tryz.prog.info? 216).map (·.size) = some 2 := by kernel_rfl
abbrev wdA (z : Int) : Array Value := #[.int .i64 (hi6 z), .int .u64 (lo6 z)]
abbrev szA (z : Int) : Array Value := #[.int .u64 (hi6 z), .int .u64 (lo6 z)]
theorem stWd {ops : Array Oper} {rest : List Oper} {o : Oper} {a : Act} {w : World} {Q : Exit → Act → World → Prop} (hgd : o.guard = none) (x y : Operand) (ho : o.op = .store 216 x y)
    {g : Nat} {old : Array Value} (hK : Bk w g 216 old) (hold : old.size = 2) {z : Int} (hx : a.eval x = .pointer (some ⟨g, 0, none⟩)) (hy : a.eval y = WV z)
    (h : ∀ w', Bk w' g 216 (wdA z) → w.grownBy w' (some g) → w'.heap.size = w.heap.size → wpList Tryz.prog ops Q rest (a.put o.dst undef) w') : wpList Tryz.prog ops Q (o :: rest) a w :=
  stB hgd _ x y ho hK _ hx hy wd_size (by simpa using hold) (by simp [Value.oneCell']) h
theorem ldWd {ops : Array Oper} {rest : List Oper} {o : Oper} {a : Act} {w : World} {Q : Exit → Act → World → Prop} (hgd : o.guard = none) (x : Operand) (ho : o.op = .load 216 x)
    {g : Nat} {z : Int} (hK : Bk w g 216 (wdA z)) (hx : a.eval x = .pointer (some ⟨g, 0, none⟩))
    (h : wpList Tryz.prog ops Q rest (a.put o.dst (WV z)) w) : wpList Tryz.prog ops Q (o :: rest) a w :=
  ldB hgd _ x ho hK hx Tryz.underlying216 rfl wd_size h
theorem res_wd_tmp {fn : Func} {p q : Tmp} (h : fn.results = #[.cell p 216, .tmp q]) {tmps : Array Value} {w : World} {g : Nat} {z : Int} (hK : Bk w g 216 (wdA z))
    (hp : tmps.getD p undef = .pointer (some ⟨g, 0, none⟩)) : (results fn tmps).run Tryz.prog w = .ok (.tuple #[WV z, tmps.getD q undef]) w :=
  res_cell_tmp h hK hp Tryz.underlying216 rfl wd_size
theorem res_wd {fn : Func} {p : Tmp} (h : fn.results = #[.cell p 216]) {tmps : Array Value} {w : World} {g : Nat} {z : Int} (hK : Bk w g 216 (wdA z))
    (hp : tmps.getD p undef = .pointer (some ⟨g, 0, none⟩)) : (results fn tmps).run Tryz.prog w = .ok (WV z) w :=
  res_cell h hK hp Tryz.underlying216 rfl wd_size
theorem wd0 : wdA 0 = #[.int .i64 0, .int .u64 0] := by rw [show wdA 0 = #[.int .i64 (hi6 0), .int .u64 (lo6 0)] from rfl, hi0, lo0]
namespace Mul64
theorem maskN (a : Nat) (ha : a < 18446744073709551616) : bits .and .u64 (a : Int) 4294967295 = ((a % 4294967296 : Nat) : Int) := by
  have h := bits_and_u64_nat a 4294967295 ha (by omega)
  have e : a &&& 4294967295 = a % 4294967296 := Nat.and_two_pow_sub_one_eq_mod a 32
  rw [e] at h
  exact h
theorem divN (a : Nat) : (a : Int) / 4294967296 = ((a / 4294967296 : Nat) : Int) := by omega
theorem mulN (a b : Nat) : (a : Int) * (b : Int) = ((a * b : Nat) : Int) := (Int.natCast_mul a b).symm
theorem addN (a b : Nat) : (a : Int) + (b : Int) = ((a + b : Nat) : Int) := (Int.natCast_add a b).symm
theorem wrapN (a : Nat) (ha : a < 18446744073709551616) : IntKind.u64.wrap (a : Int) = (a : Int) := by rw [IntKind.wrap_u64]; omega
theorem wrapM (a : Nat) : IntKind.u64.wrap (a : Int) = ((a % 18446744073709551616 : Nat) : Int) := by rw [IntKind.wrap_u64]; omega
end Mul64
theorem ab_bd {x : Int} (h : J64 x) : 0 ≤ ab x ∧ ab x ≤ 9223372036854775808 := by unfold ab; unfold J64 at h; split <;> omega
theorem ab_mul (a b : Int) : (if (!(decide (a < 0) == decide (b < 0))) = true then -(ab a * ab b) else ab a * ab b) = a * b := by
  unfold ab
  by_cases h1 : a < 0 <;> by_cases h2 : b < 0 <;> simp [h1, h2, Int.neg_mul, Int.mul_neg]
theorem prod_le {x y : Int} (hx : 0 ≤ x) (hx2 : x ≤ 9223372036854775808) (hy : 0 ≤ y) (hy2 : y ≤ 9223372036854775808) : 0 ≤ x * y ∧ x * y ≤ 85070591730234615865843651857942052864 := by
  constructor
  · exact Int.mul_nonneg hx hy
  · have := Int.mul_le_mul hx2 hy2 hy (by omega : (0:Int) ≤ 9223372036854775808)
    omega
theorem apart_facts {a : Int} (ha : Wd a) (hn : a < 0) : ∃ ua c : Int, IntKind.u64.wrap (hi6 a) = ua ∧
    (∀ w, (callFunc 181 #[.int .u64 0, .int .u64 (lo6 a), .int .u64 0]).run Tryz.prog w = .ok (.value (.tuple #[.int .u64 (lo6 (ab a)), .int .u64 c])) w) ∧
    (∃ d, ∀ w, (callFunc 181 #[.int .u64 0, .int .u64 ua, .int .u64 c]).run Tryz.prog w = .ok (.value (.tuple #[.int .u64 (hi6 (ab a)), .int .u64 d])) w) := by
  have e : ab a = -a := by unfold ab; rw [if_pos hn]
  rw [e]
  unfold Wd at ha
  refine ⟨_, if 0 < lo6 a then 1 else 0, uw _, fun w => run_sub' (by omega) (by unfold lo6; omega) (by omega) (by unfold lo6; omega) (by omega) (by omega) (by unfold lo6; omega) (by rw [Int.add_zero]) w, _, fun w => run_sub' (by omega) (by omega) (by omega) (by omega) (by split <;> omega) (by split <;> omega) (by unfold lo6 hi6; split <;> omega) rfl w⟩
end Go.Proofs.YtibmhabipghjlaaGreat
end
section
set_option linter.unusedVariables false
namespace Go.Proofs.YtibmhabipghjlaaGreat
open Go.RowKit
theorem scale_facts {s y : Int} (hs : 0 ≤ s) (hy : 0 ≤ y) (hy2 : y < 18446744073709551616) (hp : Wd (s * y)) :
    hi6 (hi6 s * y) = 0 ∧ lo6 (hi6 s * y) = hi6 s * y ∧ lo6 (lo6 s * y) = lo6 (s * y) ∧ 0 ≤ hi6 s * y ∧ hi6 s * y < 9223372036854775808 ∧ hi6 (lo6 s * y) + hi6 s * y = hi6 (s * y) ∧ 0 ≤ hi6 (lo6 s * y) ∧ hi6 (s * y) < 9223372036854775808 ∧ 0 ≤ hi6 s ∧ 0 ≤ lo6 s ∧ lo6 s < 18446744073709551616 ∧ 0 ≤ s * y := by
  have e : s = hi6 s * 18446744073709551616 + lo6 s := by unfold hi6 lo6; omega
  have e2 : s * y = hi6 s * y * 18446744073709551616 + lo6 s * y := by
    rw [e, Int.add_mul, Int.mul_right_comm]
    rw [← e]
  have h1 : 0 ≤ hi6 s := by unfold hi6; omega
  have h2 : 0 ≤ lo6 s := by unfold lo6; omega
  have h2' : lo6 s < 18446744073709551616 := by unfold lo6; omega
  have h3 : 0 ≤ hi6 s * y := Int.mul_nonneg h1 hy
  have h4 : 0 ≤ lo6 s * y := Int.mul_nonneg h2 hy
  have h5 : 0 ≤ s * y := Int.mul_nonneg hs hy
  unfold Wd at hp
  generalize hi6 s * y = p at *
  generalize lo6 s * y = q at *
  generalize s * y = t at *
  refine ⟨?_, ?_, ?_, h3, ?_, ?_, ?_, ?_, h1, h2, h2', h5⟩
  all_goals (unfold hi6 lo6 at *; omega)
end Go.Proofs.YtibmhabipghjlaaGreat
end
section
set_option linter.unusedVariables false
namespace Go.Proofs.YtibmhabipghjlaaGreat
open Go.RowKit
theorem wd2_keep {w w' : World} {B g : Nat} {x y : Value} (h : w.cell? ⟨g, 0, none⟩ = some x ∧ w.cell? ⟨g, 1, none⟩ = some y) (hg : g < B) (hb : Below B w w') : w'.cell? ⟨g, 0, none⟩ = some x ∧ w'.cell? ⟨g, 1, none⟩ = some y ∧ Below B w w' :=
  ⟨(hb.cell (by exact hg)).trans h.1, (hb.cell (by exact hg)).trans h.2, hb⟩
theorem fits_facts (z : Int) : ∃ x, wrap64 (lo6 z) = x ∧ J64 x ∧ (J64 z → x = z) ∧ (¬ J64 z → hi6 x ≠ hi6 z) := by
  refine ⟨_, rfl, ?_, ?_, ?_⟩ <;> rw [w64] <;> unfold J64 lo6 <;> (try unfold hi6) <;> omega
set_option maxRecDepth 100000 in
set_option maxHeartbeats 4000000 in
theorem fits64_yes (z : Int) (w : World) (hz : J64 z) : Calls Tryz.prog 159 #[WV z] w fun e w' => e = .returned (.tuple #[.int .i64 z, .bool true]) ∧ Below w.heap.size w w' := by
  obtain ⟨x, e1, hx, hx1, hx2⟩ := fits_facts z
  obtain rfl := hx1 hz
  have hO := fun w' => wof_any x w' hx
  have hK := Bk.new w 216 (wdA x)
  have hbz := (Below.refl w.heap.size w).alloc (Nat.le_refl _) (.cells (wdA x) 216)
  clear hx hx1 hz hx2
  go_enter Tryz.func159, Tryz.ntmps159
  go_upto_region 2 with fail
  generalize w.alloc (.cells (wdA x) 216) = w1 at *
  have hc := hK.cell2
  have hlt := hK.lt
  obtain ⟨c0, c1⟩ := hc
  go_region_held3 (fun w' => w'.cell? ⟨w.heap.size, 0, none⟩ = some (.int .i64 (hi6 x)) ∧ w'.cell? ⟨w.heap.size, 1, none⟩ = some (.int .u64 (lo6 x)) ∧ Below w1.heap.size w1 w')
    (first | with_reducible exact wd2_keep ⟨c0, c1⟩ hlt hbl | (refine wd2_keep ⟨c0, c1⟩ hlt ?_; go_grown))
    (first | (go_at_call 158; (with_reducible refine (hO _).mono ?_); rintro e wl ⟨rfl, hbl'⟩; have hbl : Below w1.heap.size w1 wl := by first | exact hbl' | exact Below.trans (by go_grown) hbl'))
  all_goals
    rename_i hHeld
    have hbx := hHeld.2.2
    clear hHeld
    go_wp2_with fail
    go_returns
    exact ⟨rfl, hbz.trans (hbx.mono hbz.size)⟩
set_option maxRecDepth 100000 in
set_option maxHeartbeats 4000000 in
theorem fits64_no (z : Int) (w : World) (hz : ¬ J64 z) : Calls Tryz.prog 159 #[WV z] w fun e w' => e = .returned (.tuple #[.int .i64 0, .bool false]) ∧ Below w.heap.size w w' := by
  obtain ⟨x, e1, hx, hx1, hx2⟩ := fits_facts z
  have hne : ¬ hi6 x = hi6 z := hx2 hz
  have hO := fun w' => wof_any x w' hx
  have hK := Bk.new w 216 (wdA z)
  have hbz := (Below.refl w.heap.size w).alloc (Nat.le_refl _) (.cells (wdA z) 216)
  clear hx hx1 hz hx2
  go_enter Tryz.func159, Tryz.ntmps159
  go_upto_region 2 with fail
  generalize w.alloc (.cells (wdA z) 216) = w1 at *
  have hc := hK.cell2
  have hlt := hK.lt
  obtain ⟨c0, c1⟩ := hc
  go_region_held3 (fun w' => w'.cell? ⟨w.heap.size, 0, none⟩ = some (.int .i64 (hi6 z)) ∧ w'.cell? ⟨w.heap.size, 1, none⟩ = some (.int .u64 (lo6 z)) ∧ Below w1.heap.size w1 w')
    (first | with_reducible exact wd2_keep ⟨c0, c1⟩ hlt hbl | (refine wd2_keep ⟨c0, c1⟩ hlt ?_; go_grown))
    (first | (go_at_call 158; (with_reducible refine (hO _).mono ?_); rintro e wl ⟨rfl, hbl'⟩; have hbl : Below w1.heap.size w1 wl := by first | exact hbl' | exact Below.trans (by go_grown) hbl'))
  all_goals
    rename_i hHeld
    have hbx := hHeld.2.2
    clear hHeld
    go_wp2_with fail
    go_returns
    exact ⟨rfl, hbz.trans (hbx.mono hbz.size)⟩
end Go.Proofs.YtibmhabipghjlaaGreat
end
section
set_option linter.unusedVariables false
namespace Go.Proofs.YtibmhabipghjlaaGreat
open Go.RowKit
theorem or_add {k b i X : Int} (n : Nat) (hi : i = 2 ^ n) (hX : X = i * k) (hk : 0 ≤ k) (hb : 0 ≤ b) (hb2 : b < i) (hX2 : X < 18446744073709551616) (hb3 : b < 18446744073709551616) : bits .or .u64 X b = X + b := by
  obtain ⟨k, rfl⟩ := Int.eq_ofNat_of_zero_le hk
  obtain ⟨b, rfl⟩ := Int.eq_ofNat_of_zero_le hb
  have e : X = ((2 ^ n * k : Nat) : Int) := by rw [hX, hi]; simp
  subst e
  have hb4 : b < 2 ^ n := by rw [hi] at hb2; exact_mod_cast hb2
  rw [bits_or_u64_nat _ _ (by omega) (by omega), ← Nat.two_pow_add_eq_or_of_lt hb4]
  omega
theorem or_comm64 {a b : Int} (ha : 0 ≤ a) (hb : 0 ≤ b) (ha2 : a < 18446744073709551616) (hb2 : b < 18446744073709551616) : bits .or .u64 a b = bits .or .u64 b a := by
  obtain ⟨a, rfl⟩ := Int.eq_ofNat_of_zero_le ha
  obtain ⟨b, rfl⟩ := Int.eq_ofNat_of_zero_le hb
  rw [bits_or_u64_nat _ _ (by omega) (by omega), bits_or_u64_nat _ _ (by omega) (by omega), Nat.or_comm]
theorem shl_facts {z : Int} (h : Wd (z * 65536)) : wrap64 (bits BinOp.or IntKind.u64 (IntKind.u64.wrap (IntKind.u64.wrap (hi6 z) * 65536)) (lo6 z / 281474976710656)) = hi6 (z * 65536) ∧ IntKind.u64.wrap (lo6 z * 65536) = lo6 (z * 65536) := by
  rw [uw, uw, uw]
  have e : hi6 z % 18446744073709551616 * 65536 % 18446744073709551616 = 65536 * (hi6 z % 281474976710656) := by omega
  rw [e, or_add 16 (i := 65536) (by decide) rfl (by omega) (by unfold lo6; omega) (by unfold lo6; omega) (by omega) (by unfold lo6; omega), w64]
  unfold Wd at h
  unfold hi6 lo6
  omega
theorem shr_facts (z : Int) : hi6 z / 65536 = hi6 (z / 65536) ∧ bits BinOp.or IntKind.u64 (lo6 z / 65536) (IntKind.u64.wrap (IntKind.u64.wrap (hi6 z) * 281474976710656)) = lo6 (z / 65536) := by
  rw [uw, uw]
  have e : hi6 z % 18446744073709551616 * 281474976710656 % 18446744073709551616 = 281474976710656 * (hi6 z % 65536) := by omega
  rw [e, or_comm64 (by unfold lo6; omega) (by omega) (by unfold lo6; omega) (by omega), or_add 48 (i := 281474976710656) (by decide) rfl (by omega) (by unfold lo6; omega) (by unfold lo6; omega) (by omega) (by unfold lo6; omega)]
  unfold hi6 lo6
  omega
end Go.Proofs.YtibmhabipghjlaaGreat
end
section
set_option linter.unusedVariables false
namespace Go.Proofs.YtibmhabipghjlaaGreat
open Go.RowKit
theorem len8_at (k : Int) (hk : 0 ≤ k ∧ k ≤ 56) (i : Int) (h0 : 0 ≤ i) (h1 : i < 256) (h : i.toNat < Lib.len8tab.size) : wrap64 (k + wrap64 ((Lib.len8tab[i.toNat]'h).toNat : Int)) = k + (Lib.bitLen i.toNat : Int) := by
  have e := Lib.len8_of i h0 (by omega)
  have l := Lib.bitLen_le8' i h0 (by omega)
  unfold Lib.len8 at e
  rw [getElem?_pos Lib.len8tab i.toNat h] at e
  simp only [Option.getD_some] at e
  rw [e, w64, w64]
  omega
set_option maxHeartbeats 4000000 in
set_option maxRecDepth 100000 in
theorem len64_any (x : Int) (w : World) (h0 : 0 ≤ x) (h1 : x ≤ 18446744073709551615) :
    Calls Tryz.prog 109 #[.int .u64 x] w fun e w' => e = .returned (.int .i64 (Lib.bitLen x.toNat)) ∧ w = w' := by
  have hsz : Lib.len8tab.size = 256 := Lib.len8tab_size
  go_enter Tryz.func109, Tryz.ntmps109
  go_wp2
  all_goals (go_ret; refine ⟨congrArg Ending.returned (congrArg (Value.int IntKind.i64) ?_), rfl⟩)
  all_goals first
    | (rw [len8_at _ (by omega) _ (by omega) (by omega)]
       have e : (x / 4294967296 / 65536 / 256).toNat = x.toNat / 72057594037927936 := by omega
       have s := Lib.bitLen_shift56 x.toNat (by omega) (by omega)
       rw [e]
       omega)
    | (rw [len8_at _ (by omega) _ (by omega) (by omega)]
       have e : (x / 4294967296 / 65536).toNat = x.toNat / 281474976710656 := by omega
       have s := Lib.bitLen_shift48 x.toNat (by omega) (by omega)
       rw [e]
       omega)
    | (rw [len8_at _ (by omega) _ (by omega) (by omega)]
       have e : (x / 4294967296 / 256).toNat = x.toNat / 1099511627776 := by omega
       have s := Lib.bitLen_shift40 x.toNat (by omega) (by omega)
       rw [e]
       omega)
    | (rw [len8_at _ (by omega) _ (by omega) (by omega)]
       have e : (x / 4294967296).toNat = x.toNat / 4294967296 := by omega
       have s := Lib.bitLen_shift32 x.toNat (by omega) (by omega)
       rw [e]
       omega)
    | (rw [len8_at _ (by omega) _ (by omega) (by omega)]
       have e : (x / 65536 / 256).toNat = x.toNat / 16777216 := by omega
       have s := Lib.bitLen_shift24 x.toNat (by omega) (by omega)
       rw [e]
       omega)
    | (rw [len8_at _ (by omega) _ (by omega) (by omega)]
       have e : (x / 65536).toNat = x.toNat / 65536 := by omega
       have s := Lib.bitLen_shift16 x.toNat (by omega) (by omega)
       rw [e]
       omega)
    | (rw [len8_at _ (by omega) _ (by omega) (by omega)]
       have e : (x / 256).toNat = x.toNat / 256 := by omega
       have s := Lib.bitLen_shift8 x.toNat (by omega) (by omega)
       rw [e]
       omega)
    | (have e := len8_at 0 (by omega) x h0 (by omega) (by omega)
       rw [Int.zero_add, Int.zero_add] at e
       rw [← e, w64, w64])
set_option maxRecDepth 100000 in
theorem bitLen_pow : ∀ (f x : Nat), 0 < x → x < 2 ^ f → 2 ^ (Lib.bitLenAux f x - 1) ≤ x ∧ x < 2 ^ (Lib.bitLenAux f x) ∧ 0 < Lib.bitLenAux f x ∧ Lib.bitLenAux f x ≤ f := by
  intro f
  induction f with
  | zero => intro x h1 h2; simp at h2; omega
  | succ f ih =>
    intro x h1 h2
    have e : Lib.bitLenAux (f + 1) x = 1 + Lib.bitLenAux f (x / 2) := by
      rw [Lib.bitLenAux]; split <;> omega
    rw [e]
    by_cases h3 : x / 2 = 0
    · have h4 : x = 1 := by omega
      subst h4
      rw [show (1 : Nat) / 2 = 0 from rfl]
      have : Lib.bitLenAux f 0 = 0 := by cases f <;> simp [Lib.bitLenAux]
      rw [this]
      simp
    · obtain ⟨a1, a2, a3, a4⟩ := ih (x / 2) (by omega) (by rw [Nat.pow_succ] at h2; omega)
      generalize Lib.bitLenAux f (x / 2) = k at *
      obtain ⟨j, rfl⟩ : ∃ j, k = j + 1 := ⟨k - 1, by omega⟩
      rw [show j + 1 - 1 = j by omega] at a1
      rw [show 1 + (j + 1) - 1 = j + 1 by omega, show 1 + (j + 1) = (j + 1) + 1 by omega, Nat.pow_succ 2 (j + 1)]
      rw [Nat.pow_succ] at a2 ⊢
      omega
set_option maxRecDepth 100000 in
/-- the leading zeros of a number that is not 0. -/
theorem lz_any (y : Int) (w : World) (h0 : 0 < y) (h1 : y < 18446744073709551616) : ∃ s : Nat, s ≤ 63 ∧ y * 2 ^ s < 18446744073709551616 ∧ 9223372036854775808 ≤ y * 2 ^ s ∧
    ∀ w : World, Calls Tryz.prog 183 #[.int .u64 y] w fun e w' => e = .returned (.int .i64 s) ∧ w = w' := by
  obtain ⟨y, rfl⟩ := Int.eq_ofNat_of_zero_le (by omega : 0 ≤ y)
  obtain ⟨a1, a2, a3, a4⟩ := bitLen_pow 64 y (by omega) (by omega)
  have e : Lib.bitLenAux 64 y = Lib.bitLen y := rfl
  rw [e] at a1 a2 a3 a4
  refine ⟨64 - Lib.bitLen y, by omega, ?_, ?_, fun w => ?_⟩
  · have h : y * 2 ^ (64 - Lib.bitLen y) < 2 ^ Lib.bitLen y * 2 ^ (64 - Lib.bitLen y) := Nat.mul_lt_mul_of_pos_right a2 (Nat.pow_pos (by omega))
    rw [← Nat.pow_add, show Lib.bitLen y + (64 - Lib.bitLen y) = 64 by omega, show (2 : Nat) ^ 64 = 18446744073709551616 from rfl] at h
    have h' := Int.ofNat_lt.2 h
    rw [Int.natCast_mul, Int.natCast_pow] at h'
    exact h'
  · have h : 2 ^ (Lib.bitLen y - 1) * 2 ^ (64 - Lib.bitLen y) ≤ y * 2 ^ (64 - Lib.bitLen y) := Nat.mul_le_mul_right _ a1
    rw [← Nat.pow_add, show Lib.bitLen y - 1 + (64 - Lib.bitLen y) = 63 by omega, show (2 : Nat) ^ 63 = 9223372036854775808 from rfl] at h
    have h' := Int.ofNat_le.2 h
    rw [Int.natCast_mul, Int.natCast_pow] at h'
    exact h'
  · have hb : (Lib.bitLen ((y : Nat) : Int).toNat : Int) = (Lib.bitLen y : Int) := by simp
    have hL := fun w' => (len64_any (y : Int) w' (by omega) (by omega)).mono (R' := fun e w'' => e = .returned (.int .i64 (Lib.bitLen y)) ∧ w' = w'') fun e w'' ⟨h1, h2⟩ => ⟨by rw [h1, hb], h2⟩
    have e2 : (((64 - Lib.bitLen y : Nat)) : Int) = 64 - (Lib.bitLen y : Int) := by omega
    rw [e2]
    clear hb a1 a2 a3 e e2
    go_enter Tryz.func183, Tryz.ntmps183
    go_wp2_with (go_at_call 109; (with_reducible refine (hL _).mono ?_); rintro e w1 ⟨rfl, rfl⟩)
    go_ret
    exact ⟨rfl, rfl⟩
end Go.Proofs.YtibmhabipghjlaaGreat
end
section
set_option linter.unusedVariables false
namespace Go.Proofs.YtibmhabipghjlaaGreat
/-- The divisor's two digits, what is divided, the next digit. -/
structure Dg (D d1 d0 U l : Int) : Prop where
  e : D = d1 * 4294967296 + d0
  a1 : 2147483648 ≤ d1
  a2 : d1 < 4294967296
  b1 : 0 ≤ d0
  b2 : d0 < 4294967296
  u1 : 0 ≤ U
  u2 : U < D
  l1 : 0 ≤ l
  l2 : l < 4294967296
/-- The digit. -/
def dgq (D U l : Int) : Int := (U * 4294967296 + l) / D
/-- A guess of the digit that may be too great, and what is left by it. -/
structure Gs (D d1 U l q r : Int) : Prop where
  lo : dgq D U l ≤ q
  hi : q ≤ 4294967297
  re : r = U - q * d1
  r0 : 0 ≤ r
  r1 : r < 4294967296
section
variable {D d1 d0 U l q r : Int}
theorem Dg.pos (h : Dg D d1 d0 U l) : 0 < D := by have := h.e; have := h.a1; have := h.b1; omega
theorem Dg.lt (h : Dg D d1 d0 U l) : dgq D U l < 4294967296 := by
  unfold dgq
  have h0 := h.pos; have h1 := h.u2; have h2 := h.l2
  exact Int.ediv_lt_of_lt_mul h0 (by omega)
theorem Dg.ge (h : Dg D d1 d0 U l) : 0 ≤ dgq D U l := by
  unfold dgq
  have h0 := h.pos; have h1 := h.u1; have h2 := h.l1
  exact Int.ediv_nonneg (by omega) (by omega)
theorem Gs.start (h : Dg D d1 d0 U l) : Gs D d1 U l (U / d1) (U - U / d1 * d1) := by
  have h0 := h.pos
  have hd : 0 < d1 := by have := h.a1; omega
  have hm := Int.emod_add_mul_ediv U d1
  have hm2 := Int.emod_nonneg U (by omega : d1 ≠ 0)
  have hm3 := Int.emod_lt_of_pos U hd
  have ec : d1 * (U / d1) = U / d1 * d1 := Int.mul_comm _ _
  refine ⟨?_, ?_, rfl, by omega, by have := h.a2; omega⟩
  · apply Int.le_ediv_of_mul_le hd
    have k1 : dgq D U l * D ≤ U * 4294967296 + l := Int.ediv_mul_le _ (by omega)
    have k2 : dgq D U l * D = dgq D U l * d1 * 4294967296 + dgq D U l * d0 := by rw [h.e, Int.mul_add, Int.mul_assoc]
    have k3 : 0 ≤ dgq D U l * d0 := Int.mul_nonneg h.ge h.b1
    have := h.l2
    generalize dgq D U l * d1 = p at *
    generalize dgq D U l * d0 = p' at *
    omega
  · have k1 : U < d1 * 4294967298 := by have := h.e; have := h.u2; have := h.b2; have := h.a1; omega
    have k2 : U / d1 < 4294967298 := Int.ediv_lt_of_lt_mul hd (by rw [Int.mul_comm]; exact k1)
    omega
theorem Gs.step (h : Dg D d1 d0 U l) (g : Gs D d1 U l q r) (hc : 4294967296 ≤ q ∨ 4294967296 * r + l < q * d0) : dgq D U l ≤ q - 1 := by
  rcases hc with hc | hc
  · have := h.lt; omega
  · have k : dgq D U l < q := by
      unfold dgq
      apply Int.ediv_lt_of_lt_mul h.pos
      have k2 : q * D = q * d1 * 4294967296 + q * d0 := by rw [h.e, Int.mul_add, Int.mul_assoc]
      have := g.re
      rw [k2]
      generalize q * d1 = p at *
      generalize q * d0 = p' at *
      omega
    omega
theorem Gs.next (h : Dg D d1 d0 U l) (g : Gs D d1 U l q r) (hc : 4294967296 ≤ q ∨ 4294967296 * r + l < q * d0) (hr : r + d1 < 4294967296) : Gs D d1 U l (q - 1) (r + d1) := by
  have h1 := g.step h hc
  have h2 := g.hi; have h3 := g.re; have h4 := g.r0; have h5 := h.a1
  refine ⟨h1, by omega, ?_, by omega, hr⟩
  rw [Int.sub_mul]; omega
theorem Gs.far (h : Dg D d1 d0 U l) (g : Gs D d1 U l q r) (hc : 4294967296 ≤ q ∨ 4294967296 * r + l < q * d0) (hr : 4294967296 ≤ r + d1) : q - 1 = dgq D U l := by
  have h1 := g.step h hc
  have h0 := h.ge
  have h2 := g.hi
  have h3 : r + d1 = U - (q - 1) * d1 := by rw [Int.sub_mul, g.re]; omega
  have k : q - 1 ≤ dgq D U l := by
    unfold dgq
    apply Int.le_ediv_of_mul_le h.pos
    have k2 : (q - 1) * D = (q - 1) * d1 * 4294967296 + (q - 1) * d0 := by rw [h.e, Int.mul_add, Int.mul_assoc]
    have k3 : (q - 1) * d0 ≤ 4294967296 * 4294967295 := Int.mul_le_mul (by omega) (by have := h.b2; omega) h.b1 (by omega)
    have := h.l1
    rw [k2]
    generalize (q - 1) * d1 = p at *
    generalize (q - 1) * d0 = p' at *
    omega
  omega
theorem Gs.done (h : Dg D d1 d0 U l) (g : Gs D d1 U l q r) (hq : q < 4294967296) (hc : ¬ 4294967296 * r + l < q * d0) : q = dgq D U l := by
  have h1 := g.lo
  have k : q ≤ dgq D U l := by
    unfold dgq
    apply Int.le_ediv_of_mul_le h.pos
    have k2 : q * D = q * d1 * 4294967296 + q * d0 := by rw [h.e, Int.mul_add, Int.mul_assoc]
    have := g.re
    rw [k2]
    generalize q * d1 = p at *
    generalize q * d0 = p' at *
    omega
  omega
theorem Gs.bd (h : Dg D d1 d0 U l) (g : Gs D d1 U l q r) : 0 ≤ q := by have := g.lo; have := h.ge; omega
theorem Gs.mulbd (h : Dg D d1 d0 U l) (g : Gs D d1 U l q r) (hq : q < 4294967296) : 0 ≤ q * d0 ∧ q * d0 < 18446744073709551616 := by
  have h0 := g.bd h
  constructor
  · exact Int.mul_nonneg h0 h.b1
  · have := Int.mul_le_mul (show q ≤ 4294967295 by omega) (show d0 ≤ 4294967295 by have := h.b2; omega) h.b1 (by omega)
    omega
/-- What is left behind the digit. -/
def lft (D U l : Int) : Int := U * 4294967296 + l - dgq D U l * D
theorem Dg.left (h : Dg D d1 d0 U l) : 0 ≤ lft D U l ∧ lft D U l < D := by
  have h0 := h.pos
  have e := Int.emod_add_mul_ediv (U * 4294967296 + l) D
  have e2 := Int.emod_nonneg (U * 4294967296 + l) (by omega : D ≠ 0)
  have e3 := Int.emod_lt_of_pos (U * 4294967296 + l) h0
  unfold lft dgq
  rw [Int.mul_comm ((U * 4294967296 + l) / D) D]
  omega
end
/-- Two digits make the quotient. -/
theorem two_dgt {D d1 d0 U l1 l0 y hi lo : Int} {s : Nat} (h : Dg D d1 d0 U l1) (h2 : Dg D d1 d0 (lft D U l1) l0) (hy : 0 < y) (hD : D = y * 2 ^ s) (hN : U * 18446744073709551616 + (l1 * 4294967296 + l0) = (hi * 18446744073709551616 + lo) * 2 ^ s) :
    dgq D U l1 * 4294967296 + dgq D (lft D U l1) l0 = (hi * 18446744073709551616 + lo) / y ∧ lft D (lft D U l1) l0 / 2 ^ s = (hi * 18446744073709551616 + lo) % y := by
  have hp : (0 : Int) < 2 ^ s := Int.pow_pos (by omega)
  have e1 : lft D U l1 = U * 4294967296 + l1 - dgq D U l1 * D := rfl
  have e2 : lft D (lft D U l1) l0 = lft D U l1 * 4294967296 + l0 - dgq D (lft D U l1) l0 * D := rfl
  obtain ⟨k1, k2⟩ := h2.left
  generalize hR : lft D (lft D U l1) l0 = R at *
  generalize hX : lft D U l1 = X at *
  generalize dgq D X l0 = q0 at *
  generalize dgq D U l1 = q1 at *
  have e3 : (hi * 18446744073709551616 + lo) * 2 ^ s = (q1 * 4294967296 + q0) * D + R := by
    rw [← hN, Int.add_mul, Int.mul_right_comm, e2, e1]
    generalize q1 * D = p at *
    generalize q0 * D = p' at *
    omega
  generalize hi * 18446744073709551616 + lo = N at *
  have e4 : N * 2 ^ s = ((q1 * 4294967296 + q0) * y) * 2 ^ s + R := by rw [e3, hD, Int.mul_assoc]
  have e5 : R = (N - (q1 * 4294967296 + q0) * y) * 2 ^ s := by rw [Int.sub_mul]; omega
  generalize hr : N - (q1 * 4294967296 + q0) * y = r at *
  have r0 : 0 ≤ r := by
    rcases Int.lt_or_le r 0 with h | h
    · have := Int.mul_neg_of_neg_of_pos h hp; omega
    · exact h
  have r1 : r < y := by
    rcases Int.lt_or_le r y with h | h
    · exact h
    · have := Int.mul_le_mul_of_nonneg_right h (show (0:Int) ≤ 2 ^ s by omega); omega
  have hN2 : N = r + y * (q1 * 4294967296 + q0) := by rw [Int.mul_comm y]; omega
  constructor
  · rw [hN2, Int.add_mul_ediv_left _ _ (by omega : y ≠ 0), Int.ediv_eq_zero_of_lt r0 r1, Int.zero_add]
  · rw [e5, Int.mul_ediv_cancel _ (by omega : (2:Int) ^ s ≠ 0), hN2, Int.add_mul_emod_self_left, Int.emod_eq_of_lt r0 r1]
open Go.RowKit in
theorem dv_facts {hi lo y : Int} {s : Nat} (hy : 0 < y) (hs : s ≤ 63) (h1 : y * 2 ^ s < 18446744073709551616) (h2 : 9223372036854775808 ≤ y * 2 ^ s) (hh : 0 < hi) (hh2 : hi < y) (hl : 0 ≤ lo) (hl2 : lo < 18446744073709551616) :
    ∃ D d1 d0 U l1 l0 L : Int, IntKind.u64.wrap (y * 2 ^ s) = D ∧ D / 4294967296 = d1 ∧ bits BinOp.and IntKind.u64 D 4294967295 = d0 ∧ bits BinOp.or IntKind.u64 (IntKind.u64.wrap (hi * 2 ^ s)) (lo / 2 ^ (64 - s)) = U ∧
      IntKind.u64.wrap (lo * 2 ^ s) = L ∧ L / 4294967296 = l1 ∧ bits BinOp.and IntKind.u64 L 4294967295 = l0 ∧ Dg D d1 d0 U l1 ∧ 0 ≤ l0 ∧ l0 < 4294967296 ∧ D = y * 2 ^ s ∧ U * 18446744073709551616 + (l1 * 4294967296 + l0) = (hi * 18446744073709551616 + lo) * 2 ^ s := by
  have hp : (0 : Int) < 2 ^ s := Int.pow_pos (by omega)
  have hp2 : (0 : Int) < 2 ^ (64 - s) := Int.pow_pos (by omega)
  have hpp : (2 : Int) ^ s * 2 ^ (64 - s) = 18446744073709551616 := by rw [← Int.pow_add, show s + (64 - s) = 64 by omega]; rfl
  have hh3 : (hi + 1) * 2 ^ s ≤ y * 2 ^ s := Int.mul_le_mul_of_nonneg_right (by omega) (by omega)
  rw [Int.add_mul, Int.one_mul] at hh3
  have hh4 : 0 < hi * 2 ^ s := Int.mul_pos hh hp
  have ea := Int.emod_add_mul_ediv lo (2 ^ (64 - s))
  have eb := Int.emod_nonneg lo (by omega : (2 : Int) ^ (64 - s) ≠ 0)
  have ec := Int.emod_lt_of_pos lo hp2
  have ha0 : 0 ≤ lo / 2 ^ (64 - s) := Int.ediv_nonneg hl (by omega)
  have ha1 : lo / 2 ^ (64 - s) < 2 ^ s := Int.ediv_lt_of_lt_mul hp2 (by rw [hpp]; exact hl2)
  have hb0 : 0 ≤ lo % 2 ^ (64 - s) * 2 ^ s := Int.mul_nonneg eb (by omega)
  have hb1 : lo % 2 ^ (64 - s) * 2 ^ s < 18446744073709551616 := by rw [← hpp, Int.mul_comm]; exact Int.mul_lt_mul_of_pos_left ec hp
  have hlo : lo * 2 ^ s = lo / 2 ^ (64 - s) * 18446744073709551616 + lo % 2 ^ (64 - s) * 2 ^ s := by
    have e : lo = lo / 2 ^ (64 - s) * 2 ^ (64 - s) + lo % 2 ^ (64 - s) := by rw [Int.mul_comm]; omega
    calc lo * 2 ^ s = (lo / 2 ^ (64 - s) * 2 ^ (64 - s) + lo % 2 ^ (64 - s)) * 2 ^ s := by rw [← e]
      _ = lo / 2 ^ (64 - s) * 2 ^ (64 - s) * 2 ^ s + lo % 2 ^ (64 - s) * 2 ^ s := Int.add_mul _ _ _
      _ = _ := by rw [Int.mul_assoc, Int.mul_comm (2 ^ (64 - s)) (2 ^ s), hpp]
  have w1 : IntKind.u64.wrap (y * 2 ^ s) = y * 2 ^ s := by rw [uw]; exact Int.emod_eq_of_lt (by omega) h1
  have w2 : IntKind.u64.wrap (hi * 2 ^ s) = hi * 2 ^ s := by rw [uw]; exact Int.emod_eq_of_lt (by omega) (by omega)
  have w3 : IntKind.u64.wrap (lo * 2 ^ s) = lo % 2 ^ (64 - s) * 2 ^ s := by rw [uw, hlo]; omega
  have hU := or_add (X := hi * 2 ^ s) (b := lo / 2 ^ (64 - s)) (k := hi) (i := 2 ^ s) s rfl (Int.mul_comm _ _) (by omega) ha0 ha1 (by omega) (by omega)
  generalize hA : lo / 2 ^ (64 - s) = a at *
  generalize hBm : lo % 2 ^ (64 - s) * 2 ^ s = L at *
  generalize hDm : y * 2 ^ s = D at *
  generalize hHm : hi * 2 ^ s = H at *
  have msk : ∀ x : Int, 0 ≤ x → x < 18446744073709551616 → bits BinOp.and IntKind.u64 x 4294967295 = x % 4294967296 := fun x k1 k2 => by
    obtain ⟨x, rfl⟩ := Int.eq_ofNat_of_zero_le k1
    rw [Mul64.maskN x (by omega)]
    omega
  refine ⟨D, _, _, H + a, _, _, L, w1, rfl, msk D (by omega) h1, by rw [w2]; exact hU, w3, rfl, msk L hb0 hb1, ?_, by omega, by omega, rfl, ?_⟩
  · exact ⟨by omega, by omega, by omega, by omega, by omega, by omega, by omega, by omega, by omega⟩
  · rw [Int.add_mul (hi * 18446744073709551616), Int.mul_right_comm hi, hHm, hlo]
    omega
end Go.Proofs.YtibmhabipghjlaaGreat
end
