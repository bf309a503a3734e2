/- Layer 6, space: what the document's own functions answer, over plain lists. -/
import Derived.Test.YtcfokcdmkhljoaaSpH
namespace Go.Proofs.Ytcfokcdmkhljoaa.Sp
open Go.RowKit Go.Proofs.YtcfokcdmkhljoaaW.PrintWords Go.Proofs.YtcfokcdmkhljoaaW.PrintLast Go.Proofs.YtcfokcdmkhljoaaW.PrintMore
open Go.Proofs.Ytcfokcdmkhljoaa.PSpaceRuns
set_option linter.unusedVariables false
set_option linter.unusedSimpArgs false

theorem wz {x : Int} (h0 : -9223372036854775808 ≤ x) (h1 : x ≤ 9223372036854775807) : wrap64 x = x := by unfold wrap64; omega

theorem list_l0 (l : List Bool) (hl : l.length ≤ 511) : ∀ (d i k : Nat), i + d = l.length → d < k → lienref06_List.l0 k (tkN l i) i l = some (tkN l l.length) := by
  intro d
  induction d with
  | zero =>
    intro i k hi hk
    obtain ⟨k, rfl⟩ : ∃ m, k = m + 1 := ⟨k - 1, by omega⟩
    obtain rfl : i = l.length := by omega
    simp only [lienref06_List.l0]
    rw [if_neg (by omega)]
  | succ d ih =>
    intro i k hi hk
    obtain ⟨k, rfl⟩ : ∃ m, k = m + 1 := ⟨k - 1, by omega⟩
    have hlen := tkN_length l i
    have e := ih (i + 1) k (by omega) (by omega)
    simp only [lienref06_List.l0]
    rw [if_pos (by omega), if_pos (by omega), wz (by omega) (by omega)]
    have er : rdOf false l (i : Int) = l.getD i false := by simp [rdOf]
    rw [er]
    cases hq : l.getD i false with
    | true =>
      rw [if_pos rfl, if_pos (by omega)]
      rw [tkN_yes hq] at e
      simpa using e
    | false =>
      rw [if_neg (by decide)]
      rw [tkN_no hq] at e
      simpa using e
theorem list_is (l : List Bool) (hl : l.length ≤ 511) : lienref06_List.f 512 l = some (tkN l l.length) := by
  unfold lienref06_List.f
  exact list_l0 l hl l.length 0 512 (by omega) (by omega)

theorem free_l0 (l : List Bool) (hl : l.length ≤ 511) : ∀ (d i k : Nat), i + d = l.length → d < k → lienref06_Free.l0 k ((i : Int) - (tkN l i).length) i l = some ((l.length : Int) - (tkN l l.length).length) := by
  intro d
  induction d with
  | zero =>
    intro i k hi hk
    obtain ⟨k, rfl⟩ : ∃ m, k = m + 1 := ⟨k - 1, by omega⟩
    obtain rfl : i = l.length := by omega
    simp only [lienref06_Free.l0]
    rw [if_neg (by omega)]
  | succ d ih =>
    intro i k hi hk
    obtain ⟨k, rfl⟩ : ∃ m, k = m + 1 := ⟨k - 1, by omega⟩
    have hlen := tkN_length l i
    have e := ih (i + 1) k (by omega) (by omega)
    simp only [lienref06_Free.l0]
    rw [if_pos (by omega), if_pos (by omega), wz (x := (i : Int) + 1) (by omega) (by omega)]
    have er : rdOf false l (i : Int) = l.getD i false := by simp [rdOf]
    rw [er]
    cases hq : l.getD i false with
    | true =>
      rw [if_pos rfl]
      rw [tkN_yes hq] at e
      rw [← e]
      congr 1
      simp
      omega
    | false =>
      rw [if_neg (by decide), wz (by omega) (by omega)]
      rw [tkN_no hq] at e
      rw [← e]
      congr 1
      omega
theorem freeF_is (l : List Bool) (hl : l.length ≤ 511) : lienref06_Free.f 512 l = some ((l.length : Int) - (tkN l l.length).length) := by
  unfold lienref06_Free.f
  have := free_l0 l hl l.length 0 512 (by omega) (by omega)
  simpa [tkN] using this
theorem tkN_take (T : List Bool) : ∀ (n p : Nat), n ≤ p → tkN (T.take p) n = tkN T n := by
  intro n
  induction n with
  | zero => intro p _; rfl
  | succ n ih =>
    intro p hp
    have e : (T.take p).getD n false = T.getD n false := by
      simp [List.getD_eq_getElem?_getD, List.getElem?_take, show n < p by omega]
    simp only [tkN, e, ih p (by omega)]
theorem take_len {T : List Bool} {p : Nat} (h : T.length = 511) (hp : p ≤ 511) : (T.take p).length = p := by simp [h]; omega

/-! ### how many plots -/
def plotsI (a0 : Int) : Int := if a0 < 4 then 0 else ((if a0 > 4096 then 4096 else a0) - 4) / 8
theorem space_plots (a0 : Int) (h0 : -9223372036854775808 ≤ a0) (h1 : a0 ≤ 9223372036854775807) : space_Plots.f a0 = some (plotsI a0) := by
  unfold space_Plots.f plotsI mn
  by_cases h : a0 < 4
  · rw [if_pos h, if_pos h]
  · rw [if_neg h, if_neg h]
    by_cases h2 : a0 > 4096
    · rw [if_pos h2, wz (x := 4096 - 4) (by omega) (by omega), Int.tdiv_eq_ediv_of_nonneg (by decide), wz (by omega) (by omega)]
    · rw [if_neg h2, wz (x := a0 - 4) (by omega) (by omega), Int.tdiv_eq_ediv_of_nonneg (by omega), wz (by omega) (by omega)]
theorem ref_plots_l (a : Int) (ha : a ≤ 4096) (hlo : -9223372036854775808 ≤ a) : ∀ (d i k : Nat), i + d = (plotsI a).toNat → d < k → lienref06_Plots.l0 k a i = some (plotsI a) := by
  have hp : plotsI a = if a < 4 then 0 else (a - 4) / 8 := by
    unfold plotsI
    split
    · rfl
    · rw [if_neg (by omega)]
  intro d
  induction d with
  | zero =>
    intro i k hi hk
    obtain ⟨k, rfl⟩ : ∃ m, k = m + 1 := ⟨k - 1, by omega⟩
    simp only [lienref06_Plots.l0]
    have hi' : (i : Int) = plotsI a := by
      have : 0 ≤ plotsI a := by rw [hp]; split <;> omega
      omega
    have hb : plotsI a ≤ 511 := by rw [hp]; split <;> omega
    by_cases hc : (i : Int) < 511
    · rw [if_pos hc, wz (x := 8 * (i : Int)) (by omega) (by omega), wz (x := 4 + 8 * (i : Int)) (by omega) (by omega), wz (by omega) (by omega), if_neg, hi']
      rw [hp] at hi'
      split at hi' <;> omega
    · rw [if_neg hc, hi']
  | succ d ih =>
    intro i k hi hk
    obtain ⟨k, rfl⟩ : ∃ m, k = m + 1 := ⟨k - 1, by omega⟩
    simp only [lienref06_Plots.l0]
    have hb : plotsI a ≤ 511 := by rw [hp]; split <;> omega
    rw [if_pos (by omega), wz (x := 8 * (i : Int)) (by omega) (by omega), wz (x := 4 + 8 * (i : Int)) (by omega) (by omega), wz (by omega) (by omega), if_pos, wz (by omega) (by omega)]
    · exact ih (i + 1) k (by omega) (by omega)
    · have : (i : Int) + 1 ≤ plotsI a := by omega
      rw [hp] at this
      split at this <;> omega
theorem ref_plots (a : Int) (h0 : -9223372036854775808 ≤ a) (h1 : a ≤ 9223372036854775807) : lienref06_Plots.f 513 a = some (plotsI a) := by
  unfold lienref06_Plots.f
  by_cases h : a > 4096
  · rw [if_pos h]
    simp only [lienref06_Plots.j0]
    have e : plotsI a = plotsI 4096 := by unfold plotsI; rw [if_neg (by omega), if_pos h, if_neg (by decide), if_neg (by decide)]
    rw [e]
    exact ref_plots_l 4096 (by omega) (by omega) (plotsI 4096).toNat 0 512 (by omega) (by decide)
  · rw [if_neg h]
    simp only [lienref06_Plots.j0]
    refine ref_plots_l a (by omega) h0 (plotsI a).toNat 0 512 (by omega) ?_
    unfold plotsI
    split
    · decide
    · omega
theorem plotsI_n (a : Int) (h0 : 0 ≤ a) (h1 : a ≤ 4096) : plotsI a = (nplots a : Nat) := by
  unfold plotsI nplots
  by_cases h : a < 4
  · rw [if_pos h, if_pos h]; rfl
  · rw [if_neg h, if_neg h, if_neg (by omega)]; omega
theorem ref_new (a : Int) (h0 : 0 ≤ a) (h1 : a ≤ 4096) : lienref06_New.f 513 a = some (List.replicate (nplots a) false, 0) := by
  unfold lienref06_New.f
  have hn := nplots_le h1
  rw [if_neg (by omega), if_neg (by omega), ref_plots a (by omega) (by omega), plotsI_n a h0 h1]
  simp only [Option.bind_some]
  rw [if_pos (by omega), Int.toNat_natCast, if_pos (by omega)]
theorem ref_new_no (a : Int) (h : a < 0 ∨ 4096 < a) : lienref06_New.f 513 a = some ([], 1) := by
  unfold lienref06_New.f
  by_cases h0 : a < 0
  · rw [if_pos h0]
  · rw [if_neg h0, if_pos (by omega)]
theorem zT_take (p : Nat) (hp : p ≤ 511) : zT.take p = List.replicate p false := by
  unfold zT
  rw [List.take_replicate]
  congr 1
  omega
end Go.Proofs.Ytcfokcdmkhljoaa.Sp
