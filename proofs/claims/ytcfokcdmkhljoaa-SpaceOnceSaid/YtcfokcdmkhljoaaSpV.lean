/- Layer 6, space: Take over plain lists, against the document's own function. -/
import Derived.Test.YtcfokcdmkhljoaaSpT
namespace Go.Proofs.Ytcfokcdmkhljoaa.Sp
open Go.RowKit Go.Proofs.YtcfokcdmkhljoaaW.PrintWords Go.Proofs.YtcfokcdmkhljoaaW.PrintLast Go.Proofs.YtcfokcdmkhljoaaW.PrintMore
open Go.Proofs.Ytcfokcdmkhljoaa.PSpaceRuns
set_option linter.unusedVariables false
set_option linter.unusedSimpArgs false

theorem flat_at0 : ∀ (out : List S44) (t : List Int) (j : Nat) (h : j < out.length), (flat out ++ t)[2 * j]? = some out[j].f0
  | x :: r, t, 0, h => rfl
  | x :: r, t, j + 1, h => by
    have := flat_at0 r t j (by simpa using h)
    rw [show 2 * (j + 1) = 2 * j + 1 + 1 by omega]
    simpa [flat] using this
theorem flat_at1 : ∀ (out : List S44) (t : List Int) (j : Nat) (h : j < out.length), (flat out ++ t)[2 * j + 1]? = some out[j].f1
  | x :: r, t, 0, h => rfl
  | x :: r, t, j + 1, h => by
    have := flat_at1 r t j (by simpa using h)
    rw [show 2 * (j + 1) + 1 = 2 * j + 1 + 1 + 1 by omega]
    simpa [flat] using this
theorem take_l1 (out : List S44) (t : List Int) (ht : t.length ≤ 1) (ho : out.length ≤ 1000) (l : List Bool) : ∀ (d j k : Nat), j + d = out.length → d < k →
    lienref06_Take.l1 k (flat out ++ t) (out.take j) (2 * j : Nat) l = some (l, out, 0) := by
  have hlen : (flat out ++ t).length = 2 * out.length + t.length := by rw [List.length_append, flat_length]
  intro d
  induction d with
  | zero =>
    intro j k hj hk
    obtain ⟨k, rfl⟩ : ∃ m, k = m + 1 := ⟨k - 1, by omega⟩
    obtain rfl : j = out.length := by omega
    simp only [lienref06_Take.l1]
    rw [wz (by omega) (by omega), if_neg (by omega), List.take_length]
  | succ d ih =>
    intro j k hj hk
    obtain ⟨k, rfl⟩ : ∃ m, k = m + 1 := ⟨k - 1, by omega⟩
    have hjl : j < out.length := by omega
    simp only [lienref06_Take.l1]
    rw [wz (x := ((2 * j : Nat) : Int) + 1) (by omega) (by omega), if_pos (by omega), if_pos (by omega), if_pos (by omega), if_pos (by omega), if_pos (by rw [List.length_take]; omega), wz (by omega) (by omega)]
    have e0 : rd (flat out ++ t) ((2 * j : Nat) : Int) = out[j].f0 := by
      unfold rd
      rw [Int.toNat_natCast, List.getD_eq_getElem?_getD, flat_at0 out t j hjl]
      rfl
    have e1 : rd (flat out ++ t) (((2 * j : Nat) : Int) + 1) = out[j].f1 := by
      unfold rd
      rw [show (((2 * j : Nat) : Int) + 1).toNat = 2 * j + 1 by omega, List.getD_eq_getElem?_getD, flat_at1 out t j hjl]
      rfl
    rw [e0, e1]
    have e2 : out.take j ++ [(⟨out[j].f0, out[j].f1⟩ : S44)] = out.take (j + 1) := by
      rw [List.take_succ_eq_append_getElem hjl]
    rw [e2, show ((2 * j : Nat) : Int) + 2 = ((2 * (j + 1) : Nat) : Int) by omega]
    exact ih (j + 1) k (by omega) (by omega)
/-- the first of a pair that waits for its second -/
def tailF (first : Int) : List Int := if first < 0 then [] else [first]
theorem tailF_len (first : Int) : (tailF first).length ≤ 1 := by unfold tailF; split <;> simp
theorem take_l0 (p : Nat) (hp : p ≤ 511) (n : Int) (h0 : 0 ≤ n) (h1 : n ≤ 64) (T' : List Bool) (out' : List S44) : ∀ (d i k : Nat) (T : List Bool) (first : Int) (out : List S44), T.length = 511 → i + d = p → 2 * d + 600 < k → -1 ≤ first → out.length ≤ i →
    takeL p n (d + 1) T first i out = (T', out') → lienref06_Take.l0 k n (flat out ++ tailF first) i (T.take p) = some (T'.take p, out', 0) := by
  have done : ∀ (k : Nat) (T : List Bool) (first : Int) (out : List S44), out.length ≤ 511 → 512 < k → lienref06_Take.l1 k (flat out ++ tailF first) [] 0 (T.take p) = some (T.take p, out, 0) := fun k T first out ho hk =>
    take_l1 out (tailF first) (tailF_len first) (by omega) (T.take p) out.length 0 k (by omega) (by omega)
  intro d
  induction d with
  | zero =>
    intro i k T first out hT hi hk hf ho h
    obtain ⟨k, rfl⟩ : ∃ m, k = m + 1 + 1 := ⟨k - 2, by omega⟩
    have hlen := take_len hT hp
    simp only [takeL] at h
    rw [if_neg (by omega)] at h
    obtain ⟨rfl, rfl⟩ := Prod.mk.inj h
    simp only [lienref06_Take.l0, lienref06_Take.j2]
    rw [if_neg (by omega), if_neg (by decide)]
    exact done k _ _ _ (by omega) (by omega)
  | succ d ih =>
    intro i k T first out hT hi hk hf ho h
    obtain ⟨k, rfl⟩ : ∃ m, k = m + 1 + 1 := ⟨k - 2, by omega⟩
    have hlen := take_len hT hp
    have hw : wrap64 (2 * n) = 2 * n := wz (by omega) (by omega)
    have hfl : (flat out ++ tailF first).length = 2 * out.length + (tailF first).length := by rw [List.length_append, flat_length]
    have htl := tailF_len first
    rw [takeL, if_pos (show i < p by omega)] at h
    simp only [lienref06_Take.l0, lienref06_Take.j2]
    rw [if_pos (by omega), hw]
    by_cases hn : (out.length : Int) < n
    · rw [if_pos hn] at h
      rw [if_pos (by simp only [decide_eq_true_eq]; omega), if_pos (by omega), if_pos (by omega), wz (x := (i : Int) + 1) (by omega) (by omega)]
      have eg : rdOf false (T.take p) (i : Int) = T.getD i false := by
        unfold rdOf
        rw [Int.toNat_natCast]
        exact getD_take T p i (by omega)
      rw [eg]
      by_cases hq : T.getD i false = true
      · rw [if_pos hq] at h
        rw [if_pos hq]
        exact ih (i + 1) k T first out hT (by omega) (by omega) hf (by omega) h
      · rw [if_neg hq] at h
        rw [if_neg hq, if_pos (by omega), Int.toNat_natCast, ← set_take]
        by_cases hfi : first < 0
        · rw [if_pos hfi] at h
          have e : flat out ++ tailF first ++ [(i : Int)] = flat out ++ tailF (i : Int) := by
            unfold tailF
            rw [if_pos hfi, if_neg (by omega), List.append_nil]
          rw [e]
          exact ih (i + 1) k (T.set i true) i out (by simp [hT]) (by omega) (by omega) (by omega) (by omega) h
        · rw [if_neg hfi] at h
          have e : flat out ++ tailF first ++ [(i : Int)] = flat (out ++ [⟨first, i⟩]) ++ tailF (-1) := by
            unfold tailF
            rw [if_neg hfi, if_pos (by decide), List.append_nil, flat_append, List.append_assoc]
            rfl
          rw [e]
          exact ih (i + 1) k (T.set i true) (-1) (out ++ [⟨first, i⟩]) (by simp [hT]) (by omega) (by omega) (by omega) (by simp; omega) h
    · rw [if_neg hn] at h
      obtain ⟨rfl, rfl⟩ := Prod.mk.inj h
      rw [if_neg (by simp only [decide_eq_true_eq]; omega)]
      exact done k _ _ _ (by omega) (by omega)
theorem takeF_ok (k : Nat) (hk : 1999 ≤ k) (p : Nat) (T : List Bool) (hT : T.length = 511) (hp : p ≤ 511) (n : Int) (h0 : 0 ≤ n) (h1 : n ≤ 64) (h2 : 2 * n ≤ (p : Int) - (tkN T p).length) (T' : List Bool) (out' : List S44) (h : takeL p n (p + 1) T (-1) 0 [] = (T', out')) :
    lienref06_Take.f (k + 1) (T.take p) n = some (T'.take p, out', 0) := by
  have hlen := take_len hT hp
  have hfr := at_rounds (lienref06_Free.mono (T.take p)) (show 512 ≤ k by omega) (freeF_is (T.take p) (by omega))
  rw [hlen, tkN_take T p p (Nat.le_refl _)] at hfr
  unfold lienref06_Take.f
  rw [if_neg (by omega)]
  simp only [lienref06_Take.j0]
  rw [if_neg (by simp; omega), hfr]
  simp only [Option.bind_some, List.nil_append, List.length_nil]
  rw [wz (by omega) (by omega), if_neg (by omega), if_pos (by omega)]
  exact take_l0 p hp n h0 h1 T' out' p 0 k T (-1) [] hT (by omega) (by omega) (by omega) (by simp) h
theorem takeF_space (k : Nat) (hk : 1999 ≤ k) (p : Nat) (T : List Bool) (hT : T.length = 511) (hp : p ≤ 511) (n : Int) (h0 : 0 ≤ n) (h1 : n ≤ 64) (h2 : (p : Int) - (tkN T p).length < 2 * n) :
    lienref06_Take.f (k + 1) (T.take p) n = some (T.take p, [], 60) := by
  have hlen := take_len hT hp
  have hfr := at_rounds (lienref06_Free.mono (T.take p)) (show 512 ≤ k by omega) (freeF_is (T.take p) (by omega))
  rw [hlen, tkN_take T p p (Nat.le_refl _)] at hfr
  unfold lienref06_Take.f
  rw [if_neg (by omega)]
  simp only [lienref06_Take.j0]
  rw [if_neg (by simp; omega), hfr]
  simp only [Option.bind_some]
  rw [wz (by omega) (by omega), if_pos h2]
theorem takeF_arg (k : Nat) (l : List Bool) (n : Int) (h : n < 0 ∨ 64 < n) : lienref06_Take.f (k + 1) l n = some (l, [], 1) := by
  unfold lienref06_Take.f
  by_cases h0 : n < 0
  · rw [if_pos h0]
    simp only [lienref06_Take.j0]
    simp
  · rw [if_neg h0]
    simp only [lienref06_Take.j0]
    rw [if_pos (by simp; omega)]
theorem takeL_len (p : Nat) (n : Int) : ∀ (f : Nat) (T : List Bool) (first : Int) (k : Nat) (out : List S44), (takeL p n f T first k out).1.length = T.length
  | 0, T, first, k, out => rfl
  | f + 1, T, first, k, out => by
    rw [takeL]
    split
    · split
      · split
        · exact takeL_len p n f T first (k + 1) out
        · split
          · rw [takeL_len]; simp
          · rw [takeL_len]; simp
      · rfl
    · rfl
theorem pairs_l0 (l : List S44) (hl : l.length ≤ 100000) : ∀ (d i k : Nat), i + d = l.length → d < k → lienlaw06_pairs.l0 k l l i = some true := by
  intro d
  induction d with
  | zero =>
    intro i k hi hk
    obtain ⟨k, rfl⟩ : ∃ m, k = m + 1 := ⟨k - 1, by omega⟩
    simp only [lienlaw06_pairs.l0]
    rw [if_neg (by omega)]
  | succ d ih =>
    intro i k hi hk
    obtain ⟨k, rfl⟩ : ∃ m, k = m + 1 := ⟨k - 1, by omega⟩
    simp only [lienlaw06_pairs.l0]
    rw [if_pos (by omega), if_pos (by omega), if_pos (by omega), if_neg (by simp), wz (by omega) (by omega)]
    exact ih (i + 1) k (by omega) (by omega)
theorem pairs_is (l : List S44) (hl : l.length ≤ 100000) : lienlaw06_pairs.f 100001 l l = some true := by
  unfold lienlaw06_pairs.f
  rw [if_pos rfl]
  exact pairs_l0 l hl l.length 0 100001 (by omega) (by omega)
theorem takeL_few (p : Nat) (n : Int) : ∀ (f : Nat) (T : List Bool) (first : Int) (k : Nat) (out : List S44), (takeL p n f T first k out).2.length ≤ out.length + f
  | 0, T, first, k, out => by simp [takeL]
  | f + 1, T, first, k, out => by
    rw [takeL]
    split
    · split
      · split
        · have := takeL_few p n f T first (k + 1) out; omega
        · split
          · have := takeL_few p n f (T.set k true) k (k + 1) out; omega
          · have := takeL_few p n f (T.set k true) (-1) (k + 1) (out ++ [⟨first, k⟩]); simp at this; omega
      · simp
    · simp
end Go.Proofs.Ytcfokcdmkhljoaa.Sp
