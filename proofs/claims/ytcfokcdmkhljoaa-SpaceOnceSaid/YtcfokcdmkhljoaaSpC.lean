/- Layer 6, space: Free, Fork, New. -/
import Derived.Test.YtcfokcdmkhljoaaSpB
import Derived.Test.YtcfokcdmkhljoaaSpL
import Derived.Deep.DeepMust
import Derived.Test.YtcfokcdmkhljoaaPSpaceRunsx2
namespace Go.Proofs.Ytcfokcdmkhljoaa.Sp
open Go.RowKit Go.Proofs.YtcfokcdmkhljoaaW.PrintWords Go.Proofs.YtcfokcdmkhljoaaW.PrintLast Go.Proofs.YtcfokcdmkhljoaaW.PrintMore
open Go.Proofs.Ytcfokcdmkhljoaa.PSpaceRuns
set_option linter.unusedVariables false
set_option linter.unusedSimpArgs false

set_option maxHeartbeats 2000000 in
theorem free_is {w : World} {g : Nat} {T : List Bool} {p : Nat} (h : MapAt w g T p) :
    Calls Try.prog 20 #[.pointer (some ⟨g, 0, none⟩)] w fun e w' => e = .returned (.int .i64 ((p : Int) - (tkN T p).length)) ∧ Below w.heap.size w w' := by
  have hp := h.few
  have hl := tkN_length T p
  have H := Aside0.mk h
  clear h
  go_enter Try.func20, Try.ntmps20
  go_wp2_with (first | (go_at_call 16; refine (len_is (H.out.drewN 0)).mono ?_; rintro e w' ⟨rfl, ⟨n, rfl⟩⟩) | (go_at_call 19; refine (taken_is (H.out.drewN _)).mono ?_; rintro e w' ⟨v, rfl, hR, hB⟩; obtain ⟨A, c, rfl⟩ := Kd.R_slice hR; have HB := Aside0.mk hB; clear hR hB))
  go_ret
  exact ⟨rfl, below_step (pw_below_drewN (Below.refl _ _) _) HB.out⟩


/-- none is taken -/
def zT : List Bool := List.replicate 511 false
theorem zT_len : zT.length = 511 := List.length_replicate
theorem run_build63 (w : World) (p : Nat) : (Instr.build 63 #[(1, .int .i64 (p : Int)), (2, .bool true)]).run Try.prog w = .ok (.agg (mcells zT p true)) w := by kernel_rfl
theorem run_box63 (w : World) (cs : Array Value) : (Instr.box 63 (.agg cs)).run Try.prog w = .ok (.pointer (some ⟨w.heap.size, 0, none⟩)) (w.alloc (.cells cs 63 (0, 0))) := rfl
theorem zero63 : (Try.prog.info? 63).map (fun i => i.zero) = some (some (.agg (mcells zT 0 false))) := by kernel_rfl
theorem size63 : (Try.prog.info? 63).map (fun i => i.size) = some 513 := by kernel_rfl
theorem zero61 : (Try.prog.info? 61).map (fun i => i.zero) = some (some (.agg (zT.map Value.bool).toArray)) := by kernel_rfl
theorem size61 : (Try.prog.info? 61).map (fun i => i.size) = some 511 := by kernel_rfl
theorem mcells_size {T : List Bool} {p : Nat} {m : Bool} (h : T.length = 511) : (mcells T p m).size = 513 := by simp [mcells, h]
theorem mcells_one {T : List Bool} {p : Nat} {m : Bool} : ∀ q ∈ (mcells T p m).toList, q.oneCell' = true := by
  intro q hq
  simp only [mcells, List.mem_append, List.mem_map] at hq
  rcases hq with ⟨b, _, rfl⟩ | hq
  · rfl
  · simp at hq; rcases hq with rfl | rfl <;> rfl
theorem mcells_ext {T : List Bool} {p : Nat} {m : Bool} (h : T.length = 511) : (mcells T p m).extract 0 513 = mcells T p m := by
  apply Array.ext'; simp [mcells, h]
  rw [List.take_of_length_le (by simp [h])]

theorem mcells_tail {T : List Bool} {p q : Nat} {m r : Bool} (h : T.length = 511) : mcells T p m ++ (mcells zT q r).extract (mcells T p m).size (mcells zT q r).size = mcells T p m := by
  rw [mcells_size h, mcells_size zT_len]
  apply Array.ext'
  simp [mcells, h, zT_len]
set_option maxHeartbeats 2000000 in
theorem fork_is {w : World} {g : Nat} {T : List Bool} {p : Nat} (h : MapAt w g T p) :
    Calls Try.prog 27 #[.pointer (some ⟨g, 0, none⟩)] w fun e w' => ∃ g' : Nat, w.heap.size ≤ g' ∧ e = .returned (.pointer (some ⟨g', 0, none⟩)) ∧ MapAt w' g' T p ∧ Below w.heap.size w w' := by
  have H := Aside0.mk h
  clear h
  go_enter Try.func27, Try.ntmps27
  go_wp2_with (first | (go_at_call 30; refine (none_no (H.out.drewN 0)).mono ?_; rintro e w' ⟨rfl, ⟨n, rfl⟩⟩) | ((with_reducible refine gate_dst (N := 8) rfl ?_); refine load_agg_event rfl (N := 8) rfl rfl rfl (H.out.drewN _).blk Try.underlying63 rfl size63 (by rw [mcells_size H.out.len]; exact Nat.le_refl _) ?_; rw [mcells_ext H.out.len]) | ((with_reducible refine gate_dst (N := 3) rfl ?_); refine alloc_event rfl (N := 3) rfl rfl zero63 ?_; intro g2 hg2 w2 hb2 hB2 hs2; have HG := Aside0.mk hg2; have HB2 := Aside0.mk hB2; have HS2 := Aside0.mk hs2; clear hg2 hB2 hs2) | ((with_reducible refine gate_store (t := 63) (p := 3) (v := .tmp 8) rfl ?_); refine store_agg_event rfl rfl rfl rfl rfl hb2 (by rw [mcells_size H.out.len]; exact size63) (by rw [mcells_size H.out.len, mcells_size zT_len]; exact Nat.le_refl _) mcells_one ?_; intro w3 hb3 hg3 hs3; have HB3 := Aside0.mk hb3; have HG3 := Aside0.mk hg3; clear hb3 hg3 hs3))
  go_ret
  have hb3 := HB3.out
  rw [mcells_tail H.out.len] at hb3
  have hbw : Below w.heap.size w w3 := by
    refine below_step (pw_below_drewN (Below.refl _ _) n) (pw_below_grown HB2.out _ HB2.out.size HG3.out (fun k hk => ?_))
    injection hk with hk
    rw [← hk, HG.out]; exact Nat.le_refl _
  exact ⟨g2, by rw [HG.out]; exact Nat.le_refl _, rfl, ⟨H.out.len, H.out.few, hb3⟩, hbw⟩

/-- how many plots -/
def nplots (n : Int) : Nat := if n < 4 then 0 else ((n - 4) / 8).toNat
theorem nplots_le {n : Int} (h1 : n ≤ 4096) : nplots n ≤ 511 := by unfold nplots; split <;> omega
set_option maxHeartbeats 2000000 in
theorem plots_is (n : Int) (h0 : 0 ≤ n) (h1 : n ≤ 4096) (w : World) : Calls Try.prog 10 #[.int .i64 n] w fun e w' => e = .returned (.int .i64 (nplots n : Nat)) ∧ Below w.heap.size w w' := by
  refine (space_Plots.calls n (nplots n : Nat) w ?_).mono fun _ _ h => h
  unfold space_Plots.f nplots
  by_cases h : n < 4
  · rw [if_pos h, if_pos h]; rfl
  · rw [if_neg h, if_neg h]
    congr 1
    unfold wrap64 mn
    rw [if_neg (by omega), Int.tdiv_eq_ediv_of_nonneg (by omega)]
    omega
theorem mk63 {w : World} {g : Nat} {n : Nat} (h : n ≤ 511) (hb : w.heap[g]? = some (.cells (mcells zT n true) 63 (0, 0))) : MapAt w g zT n := ⟨zT_len, h, hb⟩

set_option maxHeartbeats 2000000 in
set_option maxRecDepth 100000 in
theorem new_is {w : World} (n : Int) (h0 : 0 ≤ n) (h1 : n ≤ 4096) : 
    Calls Try.prog 12 #[.int .i64 n] w fun e w' => ∃ g' : Nat, w.heap.size ≤ g' ∧ e = .returned (.tuple #[.pointer (some ⟨g', 0, none⟩), .int .i64 0]) ∧ MapAt w' g' zT (nplots n) ∧ Below w.heap.size w w' := by
  go_enter Try.func12, Try.ntmps12
  go_wp2_with (first | (go_at_call 10; refine (plots_is n h0 h1 _).mono ?_; rintro e w' ⟨rfl, hB⟩; have HB := Aside0.mk hB; clear hB) | ((with_reducible refine gate_dst (N := 12) rfl ?_); go_must (refine build_event (vs := [(1, .int .i64 (nplots n : Nat)), (2, .bool true)]) rfl (N := 12) rfl rfl rfl (run_build63 _ _) ?_)) | ((with_reducible refine gate_dst (N := 13) rfl ?_); refine box_agg_event rfl (N := 13) rfl rfl rfl ?_; intro g2 hg2 w2 hb2 hB2 _; have HG := Aside0.mk hg2; have HB2 := Aside0.mk hB2; have HB3 := Aside0.mk hb2; clear hg2 hB2 hb2))
  go_ret2
  exact ⟨g2, by rw [HG.out]; exact HB.out.size, rfl, mk63 (nplots_le h1) HB3.out, below_step HB.out HB2.out⟩

end Go.Proofs.Ytcfokcdmkhljoaa.Sp
