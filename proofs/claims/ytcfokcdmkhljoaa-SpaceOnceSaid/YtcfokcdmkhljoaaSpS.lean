/- Layer 6, space: claiming and giving back over plain lists, against the document's own functions. -/
import Derived.Test.YtcfokcdmkhljoaaSpP
namespace Go.Proofs.Ytcfokcdmkhljoaa.Sp
open Go.RowKit Go.Proofs.YtcfokcdmkhljoaaW.PrintWords Go.Proofs.YtcfokcdmkhljoaaW.PrintLast Go.Proofs.YtcfokcdmkhljoaaW.PrintMore
open Go.Proofs.Ytcfokcdmkhljoaa.PSpaceRuns
set_option linter.unusedVariables false
set_option linter.unusedSimpArgs false

/-- the plots of pairs -/
def flat : List S44 → List Int
  | [] => []
  | x :: r => x.f0 :: x.f1 :: flat r
theorem flat_append (a b : List S44) : flat (a ++ b) = flat a ++ flat b := by
  induction a with
  | nil => rfl
  | cons x r ih => simp [flat, ih]
theorem flat_length (a : List S44) : (flat a).length = 2 * a.length := by
  induction a with
  | nil => rfl
  | cons x r ih => simp [flat, ih]; omega
def seqR (b : Bool) (bad : Int) (p : Nat) : List Int → List Bool → Except Int (List Bool)
  | [], T => .ok T
  | k :: r, T => match stepT b bad p T k with | .error e => .error e | .ok T2 => seqR b bad p r T2
theorem allR_seq (b : Bool) (bad : Int) (p : Nat) : ∀ (L : List S44) (T : List Bool), allR b bad p L T = seqR b bad p (flat L) T
  | [], T => rfl
  | x :: r, T => by
    simp only [allR, midR, flat, seqR]
    cases stepT b bad p T x.f0 with
    | error e => rfl
    | ok T1 =>
      simp only
      cases stepT b bad p T1 x.f1 with
      | error e => rfl
      | ok T2 => exact allR_seq b bad p r T2

theorem plots_l0 (L : List S44) (hL : L.length * 16 ≤ 140737488351232) : ∀ (d i k : Nat), i + d = L.length → d < k → lienref06_plots.l0 k L (flat (L.take i)) i = some (flat L) := by
  intro d
  induction d with
  | zero =>
    intro i k hi hk
    obtain ⟨k, rfl⟩ : ∃ m, k = m + 1 := ⟨k - 1, by omega⟩
    obtain rfl : i = L.length := by omega
    simp only [lienref06_plots.l0]
    rw [if_neg (by omega), List.take_length]
  | succ d ih =>
    intro i k hi hk
    obtain ⟨k, rfl⟩ : ∃ m, k = m + 1 := ⟨k - 1, by omega⟩
    have hl : (flat (L.take i)).length = 2 * i := by rw [flat_length, List.length_take]; omega
    simp only [lienref06_plots.l0, Option.bind_some]
    rw [if_pos (by omega), if_pos (by omega), if_pos (by simp; omega), wz (by omega) (by omega)]
    have e : flat (L.take i) ++ [(rd_T44 L i).f0, (rd_T44 L i).f1] = flat (L.take (i + 1)) := by
      rw [List.take_succ_eq_append_getElem (by omega), flat_append]
      have : rd_T44 L (i : Int) = L[i]'(by omega) := by simp [rd_T44, show i < L.length by omega]
      rw [this]
      rfl
    rw [e]
    exact ih (i + 1) k (by omega) (by omega)
theorem plots_is' (L : List S44) (hL : L.length * 16 ≤ 140737488351232) (k : Nat) (hk : L.length < k) : lienref06_plots.f k L = some (flat L) := by
  unfold lienref06_plots.f
  exact plots_l0 L hL L.length 0 k (by omega) hk

/-- what the document's function answers -/
def refOut (l : List Bool) (p : Nat) : Except Int (List Bool) → List Bool × Int
  | .error e => (l, e)
  | .ok T => (T.take p, 0)
theorem getD_take (T : List Bool) (p i : Nat) (h : i < p) : (T.take p).getD i false = T.getD i false := by
  simp [List.getD_eq_getElem?_getD, List.getElem?_take, h]
theorem set_take (T : List Bool) (p i : Nat) (b : Bool) : (T.set i b).take p = (T.take p).set i b := by
  rw [List.take_set]
theorem stepT_lo {b : Bool} {bad : Int} {p : Nat} {T : List Bool} {y : Int} (h : ¬ 0 ≤ y) : stepT b bad p T y = .error 5 := by unfold stepT; rw [if_neg h]
theorem stepT_hi {b : Bool} {bad : Int} {p : Nat} {T : List Bool} {y : Int} (h0 : 0 ≤ y) (h : ¬ y < p) : stepT b bad p T y = .error 5 := by unfold stepT; rw [if_pos h0, if_neg h]
theorem stepT_bad {b : Bool} {bad : Int} {p : Nat} {T : List Bool} {y : Int} (h0 : 0 ≤ y) (h : y < p) (hq : T.getD y.toNat false = b) : stepT b bad p T y = .error bad := by unfold stepT; rw [if_pos h0, if_pos h, if_pos hq]
theorem stepT_ok {b : Bool} {bad : Int} {p : Nat} {T : List Bool} {y : Int} (h0 : 0 ≤ y) (h : y < p) (hq : ¬ T.getD y.toNat false = b) : stepT b bad p T y = .ok (T.set y.toNat b) := by unfold stepT; rw [if_pos h0, if_pos h, if_neg hq]
theorem turned_l0 (b : Bool) (bad : Int) (p : Nat) (l0 : List Bool) (ks : List Int) (hks : ks.length ≤ 9223372036854775807) : ∀ (d i k : Nat) (T : List Bool), T.length = 511 → p ≤ 511 → i + d = ks.length → 2 * d + 1 < k →
    lienref06_turned.l0 k (!b) bad ks i l0 (T.take p) = some (refOut l0 p (seqR b bad p (ks.drop i) T)) := by
  intro d
  induction d with
  | zero =>
    intro i k T hT hp hi hk
    obtain ⟨k, rfl⟩ : ∃ m, k = m + 1 := ⟨k - 1, by omega⟩
    obtain rfl : i = ks.length := by omega
    simp only [lienref06_turned.l0]
    rw [if_neg (by omega), List.drop_length]
    rfl
  | succ d ih =>
    intro i k T hT hp hi hk
    obtain ⟨k, rfl⟩ : ∃ m, k = m + 1 + 1 := ⟨k - 2, by omega⟩
    have hil : i < ks.length := by omega
    have hlen : (T.take p).length = p := take_len hT hp
    have er : rd ks (i : Int) = ks[i] := by simp [rd, hil]
    rw [List.drop_eq_getElem_cons hil]
    simp only [lienref06_turned.l0, lienref06_turned.j1, seqR]
    rw [if_pos (by omega), if_pos (by omega), er]
    generalize ks[i] = y
    by_cases hy0 : 0 ≤ y
    · rw [if_neg (show ¬ y < 0 by omega), hlen]
      by_cases hy1 : y < (p : Int)
      · rw [if_neg (by simp; omega), if_pos (by omega), if_pos (by omega)]
        have eg : rdOf false (T.take p) y = T.getD y.toNat false := by
          unfold rdOf
          exact getD_take T p y.toNat (by omega)
        rw [eg]
        by_cases hq : T.getD y.toNat false = b
        · rw [if_pos hy0, if_pos hy1, if_pos (by rw [hq]; cases b <;> rfl), stepT_bad hy0 hy1 hq]
          rfl
        · rw [if_pos hy0, if_pos hy1, if_neg (by intro h; apply hq; cases b <;> cases hh : T.getD y.toNat false <;> simp_all), wz (by omega) (by omega), Bool.not_not, ← set_take, stepT_ok hy0 hy1 hq]
          exact ih (i + 1) k (T.set y.toNat b) (by simp [hT]) hp (by omega) (by omega)
      · rw [if_pos (by simp; omega), stepT_hi hy0 hy1]
        rfl
    · rw [if_pos (show y < 0 by omega), stepT_lo hy0]
      rfl
theorem turned_is (b : Bool) (bad : Int) (p : Nat) (T : List Bool) (hT : T.length = 511) (hp : p ≤ 511) (L : List S44) (hL : L.length * 16 ≤ 140737488351232) (k : Nat) (hk : 4 * L.length + 1 < k) :
    lienref06_turned.f k (T.take p) L (!b) bad = some (refOut (T.take p) p (allR b bad p L T)) := by
  unfold lienref06_turned.f
  have hlen : (T.take p).length = p := take_len hT hp
  simp only [Option.bind_some, List.nil_append, List.length_nil]
  rw [if_pos (by omega), plots_is' L hL k (by omega)]
  simp only [Option.bind_some]
  have := turned_l0 b bad p (T.take p) (flat L) (by rw [flat_length]; omega) (flat L).length 0 k T hT hp (by omega) (by rw [flat_length]; omega)
  rw [List.drop_zero, ← allR_seq] at this
  exact this
theorem claimF (p : Nat) (T : List Bool) (hT : T.length = 511) (hp : p ≤ 511) (L : List S44) (hL : L.length * 16 ≤ 140737488351232) (k : Nat) (hk : 4 * L.length + 1 < k) :
    lienref06_Claim.f k (T.take p) L = some (refOut (T.take p) p (allR true 61 p L T)) := by
  unfold lienref06_Claim.f
  rw [show false = (!true) from rfl, turned_is true 61 p T hT hp L hL k hk]
  rfl
theorem giveF (p : Nat) (T : List Bool) (hT : T.length = 511) (hp : p ≤ 511) (L : List S44) (hL : L.length * 16 ≤ 140737488351232) (k : Nat) (hk : 4 * L.length + 1 < k) :
    lienref06_Give.f k (T.take p) L = some (refOut (T.take p) p (allR false 62 p L T)) := by
  unfold lienref06_Give.f
  have := turned_is false 62 p T hT hp L hL k hk
  rw [show (!false) = true from rfl] at this
  rw [this]
  rfl

/-! ### the order is not seen -/
theorem seq_ok (p : Nat) : ∀ (ks : List Int) (T T' : List Bool), T.length = 511 → p ≤ 511 → seqR true 61 p ks T = .ok T' →
    (∀ k ∈ ks, 0 ≤ k ∧ k < p ∧ T.getD k.toNat false = false) ∧ ks.Nodup ∧ T'.length = 511 ∧ ∀ i : Nat, T'.getD i false = if (i : Int) ∈ ks then true else T.getD i false
  | [], T, T', hT, hp, h => by
    simp only [seqR] at h
    injection h with h
    subst h
    simp [hT]
  | y :: ks, T, T', hT, hp, h => by
    simp only [seqR, stepT] at h
    by_cases h0 : 0 ≤ y
    · rw [if_pos h0] at h
      by_cases h1 : y < (p : Int)
      · rw [if_pos h1] at h
        cases hq : T.getD y.toNat false with
        | true => rw [if_pos hq] at h; cases h
        | false =>
          rw [if_neg (by rw [hq]; decide)] at h
          obtain ⟨a1, a2, a3, a4⟩ := seq_ok p ks (T.set y.toNat true) T' (by simp [hT]) hp h
          have hset : ∀ i : Nat, (T.set y.toNat true).getD i false = if i = y.toNat then true else T.getD i false := by
            intro i
            simp only [List.getD_eq_getElem?_getD, List.getElem?_set]
            by_cases e : y.toNat = i
            · subst e
              rw [if_pos rfl, if_pos (by omega), if_pos rfl]; rfl
            · rw [if_neg e, if_neg (by omega)]
          have hny : y ∉ ks := fun hy => by
            have := (a1 y hy).2.2
            rw [hset, if_pos rfl] at this
            cases this
          refine ⟨fun k hk => ?_, List.nodup_cons.2 ⟨hny, a2⟩, a3, fun i => ?_⟩
          · rcases List.mem_cons.1 hk with rfl | hk
            · exact ⟨h0, h1, hq⟩
            · obtain ⟨b0, b1, b2⟩ := a1 k hk
              refine ⟨b0, b1, ?_⟩
              rw [hset, if_neg] at b2
              · exact b2
              · intro e
                have : k = y := by omega
                exact hny (this ▸ hk)
          · rw [a4 i, hset i]
            by_cases hi : (i : Int) ∈ ks
            · rw [if_pos hi, if_pos (List.mem_cons_of_mem _ hi)]
            · rw [if_neg hi]
              by_cases e : i = y.toNat
              · rw [if_pos e, if_pos]
                have : (i : Int) = y := by omega
                rw [this]
                exact List.mem_cons_self
              · rw [if_neg e, if_neg]
                intro hm
                rcases List.mem_cons.1 hm with hm | hm
                · omega
                · exact hi hm
      · rw [if_neg h1] at h; cases h
    · rw [if_neg h0] at h; cases h
theorem seq_mk (p : Nat) : ∀ (ks : List Int) (T : List Bool), T.length = 511 → p ≤ 511 → (∀ k ∈ ks, 0 ≤ k ∧ k < p ∧ T.getD k.toNat false = false) → ks.Nodup → ∃ T', seqR true 61 p ks T = .ok T'
  | [], T, hT, hp, h, hn => ⟨T, rfl⟩
  | y :: ks, T, hT, hp, h, hn => by
    obtain ⟨h0, h1, hq⟩ := h y List.mem_cons_self
    obtain ⟨hny, hn2⟩ := List.nodup_cons.1 hn
    simp only [seqR, stepT]
    rw [if_pos h0, if_pos h1, if_neg (by rw [hq]; decide)]
    refine seq_mk p ks (T.set y.toNat true) (by simp [hT]) hp (fun k hk => ?_) hn2
    obtain ⟨b0, b1, b2⟩ := h k (List.mem_cons_of_mem _ hk)
    refine ⟨b0, b1, ?_⟩
    have hne : ¬ y.toNat = k.toNat := fun e => hny (by have : k = y := by omega
                                                       exact this ▸ hk)
    simp only [List.getD_eq_getElem?_getD, List.getElem?_set]
    rw [if_neg hne]
    rw [← List.getD_eq_getElem?_getD]
    exact b2
theorem seq_perm (p : Nat) (ks ks' : List Int) (hp' : ks.Perm ks') (T T' : List Bool) (hT : T.length = 511) (hp : p ≤ 511) (h : seqR true 61 p ks T = .ok T') : seqR true 61 p ks' T = .ok T' := by
  obtain ⟨a1, a2, a3, a4⟩ := seq_ok p ks T T' hT hp h
  obtain ⟨T2, h2⟩ := seq_mk p ks' T hT hp (fun k hk => a1 k (hp'.mem_iff.2 hk)) (hp'.nodup_iff.1 a2)
  obtain ⟨c1, c2, c3, c4⟩ := seq_ok p ks' T T2 hT hp h2
  rw [h2]
  congr 1
  apply List.ext_getElem (by rw [a3, c3])
  intro i hi1 hi2
  have e1 := a4 i
  have e2 := c4 i
  rw [List.getD_eq_getElem?_getD, List.getElem?_eq_getElem hi2] at e1
  rw [List.getD_eq_getElem?_getD, List.getElem?_eq_getElem hi1] at e2
  simp only [Option.getD_some] at e1 e2
  rw [e1, e2]
  by_cases hm : (i : Int) ∈ ks
  · rw [if_pos hm, if_pos (hp'.mem_iff.1 hm)]
  · rw [if_neg hm, if_neg (fun h => hm (hp'.mem_iff.2 h))]
/-- the pairs turned, the last first -/
def turnedL (L : List S44) : List S44 := (L.map fun x => ⟨x.f1, x.f0⟩).reverse
theorem turnedL_flat (L : List S44) : (flat L).Perm (flat (turnedL L)) := by
  have e : ∀ L : List S44, flat (turnedL L) = (flat L).reverse := by
    intro L
    induction L with
    | nil => rfl
    | cons x r ih =>
      unfold turnedL at ih ⊢
      simp only [List.map_cons, List.reverse_cons, flat_append, ih, flat]
      simp
  rw [e]
  exact (List.reverse_perm _).symm
end Go.Proofs.Ytcfokcdmkhljoaa.Sp
