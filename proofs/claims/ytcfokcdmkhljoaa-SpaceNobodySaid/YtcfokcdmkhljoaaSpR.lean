/- Layer 6, space: the walk of the statement SpaceNobody. -/
import Derived.Test.YtcfokcdmkhljoaaSpH
namespace Go.Proofs.Ytcfokcdmkhljoaa.Sp
open Go.RowKit Go.Proofs.YtcfokcdmkhljoaaW.PrintWords Go.Proofs.YtcfokcdmkhljoaaW.PrintLast Go.Proofs.YtcfokcdmkhljoaaW.PrintMore
open Go.Proofs.Ytcfokcdmkhljoaa.PSpaceRuns
set_option linter.unusedVariables false
set_option linter.unusedSimpArgs false

theorem run_build63z (w : World) : (Instr.build 63 #[]).run Try.prog w = .ok (.agg (mcells zT 0 false)) w := by kernel_rfl
set_option maxHeartbeats 4000000 in
set_option maxRecDepth 100000 in
theorem nobody_walk (a0 : Int) (_w0 : (Lit.int .i64 a0).wf = true) (a b : Int) (w : World) :
    Calls Try.prog 7 #[.int .i64 a0, .agg #[.int .i64 a, .int .i64 b]] w fun e w' => e = .returned (.bool true) ∧ Below w.heap.size w w' := by
  go_enter Try.func7, Try.ntmps7
  go_wp2_with (first | ((with_reducible refine gate_dst (N := 3) rfl ?_); refine box_agg_event rfl (N := 3) rfl rfl rfl ?_; intro g1 hg1 w1 hb1 hB1 hs1; clear hs1; have HG1 := Aside0.mk hg1; have HB1 := Aside0.mk hB1; have HK1 := Aside0.mk hb1; clear hg1 hB1 hb1) | ((with_reducible refine gate_dst (N := 12) rfl ?_); refine build_event (vs := []) rfl (N := 12) rfl rfl rfl (run_build63z _) ?_) | ((with_reducible refine gate_dst (N := 13) rfl ?_); refine box_agg_event rfl (N := 13) rfl rfl rfl ?_; intro g2 hg2 w2 hb2 hB2 hs2; clear hs2; have HG2 := Aside0.mk hg2; have HB2 := Aside0.mk hB2; have HK2 := Aside0.mk hb2; clear hg2 hB2 hb2))
  go_loopg [7] 3 (fun kq v7 w' => ∃ i : Nat, v7 = .int .i64 i ∧ Aside0 (kq + i = 3) ∧ Aside0 (0 < kq) ∧ Aside0 (w'.heap[w2.heap.size]? = some (.cells #[.pointer none, .pointer (some ⟨g2, 0, none⟩)] 26 (0, 0))) ∧ Aside0 (w'.heap[g1]? = some (.cells #[.int .i64 a, .int .i64 b] 44 (0, 0))) ∧ Aside0 (NoMap w' (some ⟨g2, 0, none⟩)) ∧ Aside0 (Below w.heap.size w w'))
  case atStart =>
    refine ⟨0, rfl, ⟨by omega⟩, ⟨by omega⟩, ⟨blk_new _ _⟩, ⟨blk_alloc ((HB2.out.block _ (blk_lt HK1.out)).trans HK1.out) _⟩, ⟨.inr ⟨g2, rfl, blk_alloc HK2.out _⟩⟩, ⟨below_step (below_step HB1.out HB2.out) (below_alloc (Below.refl _ _) _)⟩⟩
  case round =>
    obtain ⟨i, rfl, HI, HZ, HS, HP, HN, HB⟩ := hrel
    obtain ⟨k1, rfl⟩ : ∃ k1, gk = k1 + 1 := ⟨gk - 1, by have := HZ.out; omega⟩
    by_cases hi : i < 2
    · obtain ⟨q, HQ, hc⟩ : ∃ q, Aside0 (NoMap wr q) ∧ wr.cell? ⟨w2.heap.size, i, none⟩ = some (.pointer q) := by
        have hi2 : i = 0 ∨ i = 1 := by omega
        rcases hi2 with rfl | rfl
        · exact ⟨none, ⟨.inl rfl⟩, blk_cell HS.out 0⟩
        · exact ⟨_, HN, blk_cell HS.out 1⟩
      have hp0 : wr.cell? ⟨g1, 0, none⟩ = some (.int .i64 a) := blk_cell HP.out 0
      have hp1 : wr.cell? ⟨g1, 1, none⟩ = some (.int .i64 b) := blk_cell HP.out 1
      have P0 := Aside0.mk hp0
      have P1 := Aside0.mk hp1
      have HW := Aside0.mk (Below.refl wr.heap.size wr)
      clear HB1 HB2 HK1 HK2 HG1 HG2
      go_wp2_with (first | (go_at_call 18; refine (take_nm (HQ.out.below (by repeat (first | exact HW.out | apply below_alloc | apply pw_below_drewN))) _).mono ?_; rintro e w' ⟨rfl, hD⟩; have n1 := Aside0.mk (show Below wr.heap.size wr w' from below_step (by repeat (first | exact HW.out | apply below_alloc | apply pw_below_drewN)) hD.below); clear hD HW hp0 hp1; have HW := n1; clear n1; have hp0 := pw_cell_below HW.out P0.out; have hp1 := pw_cell_below HW.out P1.out) | (go_at_call 22; refine (claim_nm (HQ.out.below (by repeat (first | exact HW.out | apply below_alloc | apply pw_below_drewN))) _).mono ?_; rintro e w' ⟨rfl, hD⟩; have n1 := Aside0.mk (show Below wr.heap.size wr w' from below_step (by repeat (first | exact HW.out | apply below_alloc | apply pw_below_drewN)) hD.below); clear hD HW hp0 hp1; have HW := n1; clear n1; have hp0 := pw_cell_below HW.out P0.out; have hp1 := pw_cell_below HW.out P1.out) | (go_at_call 17; refine (give_nm (HQ.out.below (by repeat (first | exact HW.out | apply below_alloc | apply pw_below_drewN))) _).mono ?_; rintro e w' ⟨rfl, hD⟩; have n1 := Aside0.mk (show Below wr.heap.size wr w' from below_step (by repeat (first | exact HW.out | apply below_alloc | apply pw_below_drewN)) hD.below); clear hD HW hp0 hp1; have HW := n1; clear n1; have hp0 := pw_cell_below HW.out P0.out; have hp1 := pw_cell_below HW.out P1.out) | (go_at_call 20; refine (free_nm (HQ.out.below (by repeat (first | exact HW.out | apply below_alloc | apply pw_below_drewN)))).mono ?_; rintro e w' ⟨rfl, hD⟩; have n1 := Aside0.mk (show Below wr.heap.size wr w' from below_step (by repeat (first | exact HW.out | apply below_alloc | apply pw_below_drewN)) hD.below); clear hD HW hp0 hp1; have HW := n1; clear n1; have hp0 := pw_cell_below HW.out P0.out; have hp1 := pw_cell_below HW.out P1.out) | (go_at_call 16; refine (len_nm (HQ.out.below (by repeat (first | exact HW.out | apply below_alloc | apply pw_below_drewN)))).mono ?_; rintro e w' ⟨rfl, hD⟩; have n1 := Aside0.mk (show Below wr.heap.size wr w' from below_step (by repeat (first | exact HW.out | apply below_alloc | apply pw_below_drewN)) hD.below); clear hD HW hp0 hp1; have HW := n1; clear n1; have hp0 := pw_cell_below HW.out P0.out; have hp1 := pw_cell_below HW.out P1.out) | (go_at_call 19; refine (taken_nm (HQ.out.below (by repeat (first | exact HW.out | apply below_alloc | apply pw_below_drewN)))).mono ?_; rintro e w' ⟨rfl, hD⟩; have n1 := Aside0.mk (show Below wr.heap.size wr w' from below_step (by repeat (first | exact HW.out | apply below_alloc | apply pw_below_drewN)) hD.below); clear hD HW hp0 hp1; have HW := n1; clear n1; have hp0 := pw_cell_below HW.out P0.out; have hp1 := pw_cell_below HW.out P1.out) | (go_at_call 27; refine (fork_nm (HQ.out.below (by repeat (first | exact HW.out | apply below_alloc | apply pw_below_drewN)))).mono ?_; rintro e w' ⟨rfl, hD⟩; have n1 := Aside0.mk (show Below wr.heap.size wr w' from below_step (by repeat (first | exact HW.out | apply below_alloc | apply pw_below_drewN)) hD.below); clear hD HW hp0 hp1; have HW := n1; clear n1; have hp0 := pw_cell_below HW.out P0.out; have hp1 := pw_cell_below HW.out P1.out))
      go_roundg k1
      case measure => omega
      case rel => exact ⟨i + 1, by simp, ⟨by have := HI.out; omega⟩, ⟨by have := HI.out; omega⟩, ⟨(HW.out.block _ (blk_lt HS.out)).trans HS.out⟩, ⟨(HW.out.block _ (blk_lt HP.out)).trans HP.out⟩, ⟨HN.out.below HW.out⟩, ⟨below_step HB.out HW.out⟩⟩
    · go_wp2_with (go_at_call 15; refine (awake_is _).mono ?_; rintro e w5 ⟨rfl, hB5⟩; have HB5 := Aside0.mk hB5; clear hB5)
      go_ret
      exact ⟨rfl, below_step HB.out HB5.out⟩
end Go.Proofs.Ytcfokcdmkhljoaa.Sp
