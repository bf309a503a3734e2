/- Layer 6, space: the walk of the statement SpacePlots. -/
import Derived.Test.YtcfokcdmkhljoaaSpP
namespace Go.Proofs.Ytcfokcdmkhljoaa.Sp
open Go.RowKit Go.Proofs.YtcfokcdmkhljoaaW.PrintWords Go.Proofs.YtcfokcdmkhljoaaW.PrintLast Go.Proofs.YtcfokcdmkhljoaaW.PrintMore
open Go.Proofs.Ytcfokcdmkhljoaa.PSpaceRuns
set_option linter.unusedVariables false
set_option linter.unusedSimpArgs false

theorem like_is' {w : World} {g : Nat} {T : List Bool} {p : Nat} (h : MapAt w g T p) (A : Option Addr) (c : Nat) (l : List Bool) (hl : l = T.take p) (n : Nat) (hn : n = l.length) (hr : Kd.C Kd.bool w A l.length l) (hc : l.length ≤ c) :
    Calls Try.prog 14 #[.pointer (some ⟨g, 0, none⟩), .agg #[.slice A n c]] w fun e w' => e = .returned (.bool true) ∧ Below w.heap.size w w' := by
  subst hn
  have hp := h.few
  have hlen : l.length = p := by rw [hl]; exact take_len h.len hp
  have ht : tkN l l.length = tkN T p := by rw [hlen, hl, tkN_take T p p (Nat.le_refl _)]
  have h1 := list_is l (by omega)
  have h2 := freeF_is l (by omega)
  rw [ht] at h1 h2
  rw [hlen] at h2
  exact like_is h A c l hr hc 512 h1 512 h2 hlen.symm
theorem sector_no (a b : Int) (h : a < 0 ∨ 511 ≤ a ∨ b < 0 ∨ 8 ≤ b) (w : World) :
    Calls Try.prog 8 #[.int .i64 a, .int .i64 b] w fun e w' => e = .returned (.tuple #[.int .i64 0, .int .i64 5]) ∧ w = w' := by
  by_cases h1 : a < 0
  · go_enter Try.func8, Try.ntmps8
    go_wp2
    go_ret2
    exact ⟨rfl, rfl⟩
  · by_cases h2 : 511 ≤ a
    · go_enter Try.func8, Try.ntmps8
      go_wp2
      go_ret2
      exact ⟨rfl, rfl⟩
    · by_cases h3 : b < 0
      · go_enter Try.func8, Try.ntmps8
        go_wp2
        go_ret2
        exact ⟨rfl, rfl⟩
      · have h4 : 8 ≤ b := by omega
        go_enter Try.func8, Try.ntmps8
        go_wp2
        go_ret2
        exact ⟨rfl, rfl⟩
theorem sector_yes (a b : Int) (h0 : 0 ≤ a) (h1 : a ≤ 510) (h2 : 0 ≤ b) (h3 : b ≤ 7) (w : World) :
    Calls Try.prog 8 #[.int .i64 a, .int .i64 b] w fun e w' => e = .returned (.tuple #[.int .i64 (4 + 8 * a + b), .int .i64 0]) ∧ w = w' := by
  go_enter Try.func8, Try.ntmps8
  go_wp2
  go_ret2
  exact ⟨rfl, rfl⟩
theorem rsector_no (a b : Int) (h : a < 0 ∨ 511 ≤ a ∨ b < 0 ∨ 8 ≤ b) (w : World) :
    Calls Try.prog 9 #[.int .i64 a, .int .i64 b] w fun e w' => e = .returned (.tuple #[.int .i64 0, .int .i64 5]) ∧ w = w' := by
  by_cases h1 : a < 0
  · go_enter Try.func9, Try.ntmps9
    go_wp2
    go_ret2
    exact ⟨rfl, rfl⟩
  · by_cases h2 : 510 < a
    · go_enter Try.func9, Try.ntmps9
      go_wp2
      go_ret2
      exact ⟨rfl, rfl⟩
    · by_cases h3 : b < 0
      · go_enter Try.func9, Try.ntmps9
        go_wp2
        go_ret2
        exact ⟨rfl, rfl⟩
      · have h4 : 7 < b := by omega
        go_enter Try.func9, Try.ntmps9
        go_wp2
        go_ret2
        exact ⟨rfl, rfl⟩
theorem rsector_yes (a b : Int) (h0 : 0 ≤ a) (h1 : a ≤ 510) (h2 : 0 ≤ b) (h3 : b ≤ 7) (w : World) :
    Calls Try.prog 9 #[.int .i64 a, .int .i64 b] w fun e w' => e = .returned (.tuple #[.int .i64 (4 + 8 * a + b), .int .i64 0]) ∧ w = w' := by
  go_enter Try.func9, Try.ntmps9
  go_wp2
  go_ret2
  exact ⟨rfl, rfl⟩
theorem sectors (a b : Int) : ∃ x y : Int, (∀ w, Calls Try.prog 8 #[.int .i64 a, .int .i64 b] w fun e w' => e = .returned (.tuple #[.int .i64 x, .int .i64 y]) ∧ w = w') ∧
    (∀ w, Calls Try.prog 9 #[.int .i64 a, .int .i64 b] w fun e w' => e = .returned (.tuple #[.int .i64 x, .int .i64 y]) ∧ w = w') := by
  by_cases h : a < 0 ∨ 511 ≤ a ∨ b < 0 ∨ 8 ≤ b
  · exact ⟨_, _, sector_no a b h, rsector_no a b h⟩
  · exact ⟨_, _, sector_yes a b (by omega) (by omega) (by omega) (by omega), rsector_yes a b (by omega) (by omega) (by omega) (by omega)⟩
theorem new_no (w : World) (n : Int) (h : n < 0 ∨ 4096 < n) :
    Calls Try.prog 12 #[.int .i64 n] w fun e w' => e = .returned (.tuple #[.pointer none, .int .i64 1]) ∧ w = w' := by
  by_cases h0 : n < 0
  all_goals
    go_enter Try.func12, Try.ntmps12
    go_wp2
    go_ret2
    exact ⟨rfl, rfl⟩
set_option maxHeartbeats 4000000 in
set_option maxRecDepth 100000 in
theorem plots_walk (a0 a1 a2 : Int) (w0 : (Lit.int .i64 a0).wf = true) (w : World) :
    Calls Try.prog 3 #[.int .i64 a0, .int .i64 a1, .int .i64 a2] w fun e w' => e = .returned (.bool true) ∧ Below w.heap.size w w' := by
  have hb : -9223372036854775808 ≤ a0 ∧ a0 ≤ 9223372036854775807 := by
    simp only [Lit.wf, Bool.and_eq_true, decide_eq_true_eq, IntKind.min, IntKind.max, IntKind.signed, IntKind.bits, if_true] at w0
    omega
  have HB0 := Aside0.mk hb
  clear w0 hb
  obtain ⟨x, y, hs, hr⟩ := sectors a1 a2
  have HS := Aside0.mk hs
  have HR := Aside0.mk hr
  clear hs hr
  by_cases hn : 0 ≤ a0 ∧ a0 ≤ 4096
  · obtain ⟨hn0, hn1⟩ := hn
    go_enter Try.func3, Try.ntmps3
    go_wp2_with (first | (go_at_call 8; refine (HS.out _).mono ?_; rintro e w' ⟨rfl, rfl⟩) | (go_at_call 9; refine (HR.out _).mono ?_; rintro e w' ⟨rfl, rfl⟩) | (go_at_call 10; refine (space_Plots.calls a0 (plotsI a0) _ (space_plots a0 HB0.out.1 HB0.out.2)).mono ?_; rintro e w1 ⟨rfl, hB1⟩; have HB1 := Aside0.mk hB1; clear hB1) | (go_at_call 11; refine (lienref06_Plots.calls 513 a0 (plotsI a0) _ (ref_plots a0 HB0.out.1 HB0.out.2)).mono ?_; rintro e w' ⟨rfl, ⟨n1, rfl⟩⟩) | (go_at_call 12; refine (new_is a0 hn0 hn1).mono ?_; rintro e w2 ⟨g, hg, rfl, hm, hB⟩; have HM := Aside0.mk hm; have HB2 := Aside0.mk hB; have HG := Aside0.mk hg; clear hm hB hg) | (go_at_call 13; refine (lienref06_New.calls 513 a0 _ _ _ (ref_new a0 hn0 hn1)).mono ?_; rintro e w3 ⟨v, rfl, hR, hB⟩; obtain ⟨A, c, rfl, hc, hC⟩ := Kd.R_reads hR; have HC := Aside0.mk hC; have HB3 := Aside0.mk hB; clear hR hC hB))
    refine (like_is' ((HM.out.below HB3.out).below (by repeat (first | exact Below.refl _ _ | apply below_alloc))) A c _ (zT_take _ (nplots_le hn1)).symm _ (by simp) (Kd.C_below HC.out (by repeat (first | exact Below.refl _ _ | apply below_alloc))) hc).mono ?_
    rintro e w4 ⟨rfl, hB4⟩
    have HB4 := Aside0.mk hB4
    clear hB4
    go_wp2_with (go_at_call 15; refine (awake_is _).mono ?_; rintro e w5 ⟨rfl, hB5⟩; have HB5 := Aside0.mk hB5; clear hB5)
    go_ret
    refine ⟨rfl, below_step (below_step (below_step (below_step (below_step HB1.out (pw_below_drewN (Below.refl _ _) _)) HB2.out) HB3.out) ?_) HB5.out⟩
    exact below_step (below_alloc (Below.refl _ _) _) HB4.out
  · have hn' : a0 < 0 ∨ 4096 < a0 := by omega
    go_enter Try.func3, Try.ntmps3
    go_wp2_with (first | (go_at_call 8; refine (HS.out _).mono ?_; rintro e w' ⟨rfl, rfl⟩) | (go_at_call 9; refine (HR.out _).mono ?_; rintro e w' ⟨rfl, rfl⟩) | (go_at_call 10; refine (space_Plots.calls a0 (plotsI a0) _ (space_plots a0 HB0.out.1 HB0.out.2)).mono ?_; rintro e w1 ⟨rfl, hB1⟩; have HB1 := Aside0.mk hB1; clear hB1) | (go_at_call 11; refine (lienref06_Plots.calls 513 a0 (plotsI a0) _ (ref_plots a0 HB0.out.1 HB0.out.2)).mono ?_; rintro e w' ⟨rfl, ⟨n1, rfl⟩⟩) | (go_at_call 12; refine (new_no _ a0 hn').mono ?_; rintro e w' ⟨rfl, rfl⟩) | (go_at_call 13; refine (lienref06_New.calls 513 a0 _ _ _ (ref_new_no a0 hn')).mono ?_; rintro e w3 ⟨v, rfl, hR, hB⟩; obtain ⟨A, c, rfl, hc, hC⟩ := Kd.R_reads hR; have HB3 := Aside0.mk hB; clear hR hC hB) | (go_at_call 15; refine (awake_is _).mono ?_; rintro e w5 ⟨rfl, hB5⟩; have HB5 := Aside0.mk hB5; clear hB5))
    go_ret
    refine ⟨rfl, below_step (below_step (below_step (below_step HB1.out (pw_below_drewN (Below.refl _ _) _)) HB3.out) (below_alloc (Below.refl _ _) _)) HB5.out⟩
end Go.Proofs.Ytcfokcdmkhljoaa.Sp
