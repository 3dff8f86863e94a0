/- The reference's runs; whether two are the same. -/
import Derived.Test.YtjdboclibinjoaaFt6
set_option linter.unusedVariables false
namespace Go.Proofs.Ytjdboclibinjoaa
open Go.RowKit
theorem rrun_info : (Try.prog.info? 93).map (fun i => (i.zero, i.size, i.bytes)) = some (some (.agg #[.int .i64 0, .int .i64 0]), 2, 16) := by kernel_rfl
theorem rd_bool {w : World} {B : Nat} {A : Option Addr} {bs : List Bool} (h : Rd w B A (bs.map Value.bool)) (k : Nat) (hk : k < bs.length) : ∃ b o, A = some ⟨b, o, none⟩ ∧ b < B ∧ w.cell? ⟨b, o + k, none⟩ = some (.bool bs[k]) := by
  obtain ⟨b, o, e, hb, hc⟩ := h.get k (by simpa using hk)
  exact ⟨b, o, e, hb, by simpa using hc⟩
/-- The runs of those that are, before a place. -/
structure RInv (bs : List Bool) (i : Nat) (L : List Rn) : Prop where
  canon : Canon L
  mem : ∀ j, MemR L j ↔ 0 ≤ j ∧ j < i ∧ bs[j.toNat]? = some true
  end_ : ∀ r ∈ L, r.2 < i
theorem rinv_nil (bs : List Bool) : RInv bs 0 [] := ⟨canon_nil, fun j => ⟨fun h => absurd h (memR_nil j), fun h => by omega⟩, by simp⟩
theorem rinv_skip {bs : List Bool} {i : Nat} {L : List Rn} (h : RInv bs i L) (hi : bs[i]? ≠ some true) : RInv bs (i + 1) L := by
  refine ⟨h.canon, fun j => ?_, fun r hr => by have := h.end_ r hr; omega⟩
  rw [h.mem j]
  constructor
  · rintro ⟨h1, h2, h3⟩; exact ⟨h1, by omega, h3⟩
  · rintro ⟨h1, h2, h3⟩
    refine ⟨h1, ?_, h3⟩
    rcases Int.lt_or_le j i with g | g
    · exact g
    · have : j.toNat = i := by omega
      rw [this] at h3
      exact absurd h3 hi
theorem rinv_run {bs : List Bool} {i p : Nat} {L : List Rn} (h : RInv bs i L) (hip : i < p) (hall : ∀ q, i ≤ q → q < p → bs[q]? = some true) (hp : bs[p]? ≠ some true) : RInv bs (p + 1) (L ++ [((i : Int), (p : Int))]) := by
  refine ⟨canon_snoc.2 ⟨h.canon, by simpa using hip, fun x hx => h.end_ x hx⟩, fun j => ?_, ?_⟩
  · rw [memR_append, h.mem j, memR_cons]
    constructor
    · rintro (⟨h1, h2, h3⟩ | ⟨h1, h2⟩ | h1)
      · exact ⟨h1, by omega, h3⟩
      · simp only at h1 h2
        exact ⟨by omega, by omega, hall _ (by omega) (by omega)⟩
      · exact absurd h1 (memR_nil j)
    · rintro ⟨h1, h2, h3⟩
      rcases Int.lt_or_le j i with g | g
      · exact .inl ⟨h1, g, h3⟩
      · rcases Int.lt_or_le j p with g2 | g2
        · exact .inr (.inl ⟨g, g2⟩)
        · have : j.toNat = p := by omega
          rw [this] at h3
          exact absurd h3 hp
  · intro r hr
    rcases List.mem_append.1 hr with hr | hr
    · have := h.end_ r hr; omega
    · rw [List.mem_singleton] at hr; subst hr; show (p : Int) < _; omega
theorem canon_len {l : List Rn} {lo : Int} {N : Nat} (h : Canon l) (hb : ∀ r ∈ l, lo ≤ r.1 ∧ r.2 ≤ lo + N) : l.length ≤ N := by
  have h1 := (cnt_bound h hb).2
  have : ∀ {l : List Rn}, Canon l → (l.length : Int) ≤ cntR l := by
    intro l
    induction l with
    | nil => intro _; simp [cntR]
    | cons r l ih =>
      intro h
      obtain ⟨g1, _, g3⟩ := canon_cons h
      rw [cntR_cons]
      have := ih g3
      simp only [List.length_cons]
      omega
  have := this h
  omega
set_option maxHeartbeats 4000000 in
theorem runs_any (bs : List Bool) (A : Option Addr) (n c : Nat) (w : World) (hn : bs.length = n) (hn2 : n ≤ 1000000) (hr : Rd w w.heap.size A (bs.map Value.bool)) :
    Calls Try.prog 18 #[.slice A n c] w fun e w' => ∃ v out, e = .returned v ∧ w'.ownsRow w.heap.size 93 2 v out.length (encR out) ∧ Below w.heap.size w w' ∧ Canon out ∧ ∀ j, MemR out j ↔ 0 ≤ j ∧ bs[j.toNat]? = some true := by
  go_enter Try.func18, Try.ntmps18
  go_wp2_with fail
  go_loopw [3, 4] (fun v i wr => ∃ (k : Nat) (L : List Rn), k ≤ n + 1 ∧ i = .int .i64 k ∧ wr.ownsRow w.heap.size 93 2 v L.length (encR L) ∧ Below w.heap.size w wr ∧ RInv bs k L) (fun _ i _ => n + 1 - (intOf i).toNat)
  case atStart => exact ⟨0, [], by omega, rfl, by simpa [encR] using World.ownsRow_nil _ _ _ _, Below.refl _ _, rinv_nil bs⟩
  case round =>
    obtain ⟨k, L, hk, rfl, hown, hbel, hinv⟩ := hrel
    have hL : L.length ≤ k := canon_len (lo := 0) hinv.canon (fun r hr' => by
      have h1 := mem_lo hinv.canon hr'
      have h2 := (hinv.mem _).1 h1.1
      have h3 := (hinv.mem _).1 h1.2
      omega)
    have hbw := hbel.size
    by_cases hlt : k < n
    · have hk2 : k < bs.length := by omega
      obtain ⟨b, o, rfl, hbb, hc0⟩ := rd_bool (hr.below hbel) k hk2
      cases hbk : bs[k]
      · have hsk := rinv_skip hinv (by rw [List.getElem?_eq_getElem hk2, hbk]; simp)
        rw [hbk] at hc0
        clear hinv
        go_wp2_with fail
        exact ⟨⟨k + 1, L, by omega, by go_num, hown, hbel, hsk⟩, by simp [intOf]; omega⟩
      · rw [hbk] at hc0
        go_wp2_with fail
        have hbx := hr.below hbel
        go_loopw [5] (fun v wx => ∃ p : Nat, k ≤ p ∧ p ≤ n ∧ v = .int .i64 p ∧ wx = wr ∧ Hid (∀ q, k ≤ q → q < p → bs[q]? = some true)) (fun v _ => n - (intOf v).toNat)
        case atStart => exact ⟨k, by omega, by omega, rfl, rfl, fun q h1 h2 => by omega⟩
        case round =>
          obtain ⟨p, hp1, hp2, rfl, rfl, hall⟩ := hrel
          by_cases hpn : p < n
          · have hp3 : p < bs.length := by omega
            obtain ⟨b2, o2, e2, _, hd0⟩ := rd_bool hbx p hp3
            injection e2 with e2
            injection e2 with e21 e22
            subst e21; subst e22
            cases hbp : bs[p]
            · rw [hbp] at hd0
              have hkp : k < p := by
                rcases Nat.lt_or_ge k p with g | g
                · exact g
                · have : p = k := by omega
                  subst this
                  rw [hbp] at hbk; cases hbk
              have hrun := rinv_run hinv hkp hall.out (by rw [List.getElem?_eq_getElem hp3, hbp]; simp)
              clear hinv hall
              go_wp2_with (at_builtin; go_loud (refine app1 rfl _ _ _ rfl Try.underlying27 rrun_info rfl (by omega) rfl rfl hown hbel (Nat.le_refl _) hbw rfl (by simp [Value.oneCell']) (by omega) (by omega) ?_); intro v' w' hown' hbel' _ _ _; clear hown hbel)
              refine ⟨⟨p + 1, _, by omega, by go_num, ?_, hbel', hrun⟩, by simp [intOf]; omega⟩
              rw [encR_append, List.length_append]
              exact hown'
            · rw [hbp] at hd0
              go_wp2_with fail
              refine ⟨⟨p + 1, by omega, by omega, by go_num, trivial, ?_⟩, by simp [intOf]; omega⟩
              intro q h1 h2
              by_cases hq : q = p
              · subst hq; rw [List.getElem?_eq_getElem hp3, hbp]
              · exact hall.out q h1 (by omega)
          · obtain rfl : p = n := by omega
            have hrun := rinv_run hinv hlt hall.out (by rw [List.getElem?_eq_none (by omega)]; simp)
            clear hinv hall
            go_wp2_with (at_builtin; go_loud (refine app1 rfl _ _ _ rfl Try.underlying27 rrun_info rfl (by omega) rfl rfl hown hbel (Nat.le_refl _) hbw rfl (by simp [Value.oneCell']) (by omega) (by omega) ?_); intro v' w' hown' hbel' _ _ _; clear hown hbel)
            refine ⟨⟨p + 1, _, by omega, by go_num, ?_, hbel', hrun⟩, by simp [intOf]; omega⟩
            rw [encR_append, List.length_append]
            exact hown'
    · go_wp2_with fail
      go_returns
      refine ⟨_, L, rfl, hown, hbel, hinv.canon, fun j => ?_⟩
      rw [hinv.mem j]
      constructor
      · rintro ⟨h1, h2, h3⟩; exact ⟨h1, h3⟩
      · rintro ⟨h1, h2⟩
        refine ⟨h1, ?_, h2⟩
        rcases Nat.lt_or_ge j.toNat bs.length with g | g
        · omega
        · rw [List.getElem?_eq_none g] at h2; cases h2
end Go.Proofs.Ytjdboclibinjoaa
