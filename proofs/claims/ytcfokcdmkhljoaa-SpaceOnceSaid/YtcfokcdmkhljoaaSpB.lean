/- Layer 6, space: the map's reading methods: Taken, Free, Fork, New. -/
import Derived.Test.YtcfokcdmkhljoaaSpA
namespace Go.Proofs.Ytcfokcdmkhljoaa.Sp
open Go.RowKit Go.Proofs.YtcfokcdmkhljoaaW.PrintWords Go.Proofs.YtcfokcdmkhljoaaW.PrintLast Go.Proofs.YtcfokcdmkhljoaaW.PrintMore
open Go.Proofs.Ytcfokcdmkhljoaa.PSpaceRuns
set_option linter.unusedVariables false
set_option linter.unusedSimpArgs false

/-- the taken plots below n, rising -/
def tkN (T : List Bool) : Nat → List Int
  | 0 => []
  | n + 1 => tkN T n ++ if T.getD n false = true then [(n : Int)] else []
theorem tkN_length (T : List Bool) (n : Nat) : (tkN T n).length ≤ n := by
  induction n with
  | zero => simp [tkN]
  | succ n ih => simp only [tkN, List.length_append]; split <;> simp <;> omega
theorem tkN_yes {T : List Bool} {n : Nat} (h : T.getD n false = true) : tkN T (n + 1) = tkN T n ++ [(n : Int)] := by simp only [tkN, h, if_true]
theorem tkN_no {T : List Bool} {n : Nat} (h : T.getD n false = false) : tkN T (n + 1) = tkN T n := by simp [tkN]; simpa using h

set_option maxHeartbeats 2000000 in
theorem taken_is {w : World} {g : Nat} {T : List Bool} {p : Nat} (h : MapAt w g T p) :
    Calls Try.prog 19 #[.pointer (some ⟨g, 0, none⟩)] w fun e w' => ∃ v : Value, e = .returned v ∧ Kd.R (Kd.int .i64) 3 w' w.heap.size (fun _ => True) v (tkN T p) ∧ Below w.heap.size w w' := by
  have hp := h.few
  have H := Aside0.mk h
  clear h
  go_enter Try.func19, Try.ntmps19
  go_wp2_with (first | (go_at_call 16; refine (len_is (H.out.drewN 0)).mono ?_; rintro e w' ⟨rfl, ⟨n, rfl⟩⟩))
  go_loopg [3, 7] (p + 1) (fun kq v3 v7 w' => ∃ (i : Nat), v7 = .int .i64 i ∧ Aside0 (i + kq = p + 1) ∧ Aside0 (0 < kq) ∧ Aside0 (Kd.R (Kd.int .i64) 3 w' w.heap.size (fun _ => True) v3 (tkN T i)) ∧ Aside0 (Below w.heap.size w w'))
  case atStart => exact ⟨0, rfl, ⟨by omega⟩, ⟨by omega⟩, ⟨Kd.R_nil _ _ _ _ _⟩, ⟨by repeat (first | (with_reducible first | exact Below.refl _ _ | apply below_alloc | apply pw_below_drewN | apply below_drew1))⟩⟩
  case round =>
    obtain ⟨i, rfl, HI, HK, HO, HB⟩ := hrel
    by_cases hlt : i < p
    · have hc := (HB.out.cell (World.block_lt_of_cell? w _ (H.out.at_ i (by omega)))).trans (H.out.at_ i (by omega))
      have hi511 : i < 511 := by omega
      have hln := tkN_length T i
      cases hq : T.getD i false with
      | true =>
        rw [hq] at hc
        have HY := Aside0.mk (tkN_yes hq)
        clear hq
        go_wp2_with (first | ((with_reducible refine gate_builtin (b := .append) (xs := #[.tmp 16, .tmp 18]) rfl ?_); at_builtin; refine Kd.R_append (Kd.int .i64) (w0 := w) w.heap.size rfl (.tmp 16) (.tmp 18) 47 3 (.int .i64 0) 8 rfl Try.underlying47 info3 rfl (by decide) (by omega) u3 (tkN T i) (i : Int) [.int .i64 i] (fun _ => True) (fun _ => False) rfl rfl ?aP (fun _ hk => hk.elim) ?aF ?aO ?aB ?aS ?aL ?_; (case aP => exact rfl); (case aB => exact (by repeat (first | (with_reducible first | exact HB.out | apply below_alloc | apply pw_below_drewN | apply below_drew1) | exact HB.out))); (case aF => exact (fun _ _ => trivial)); (case aO => exact (by (with_reducible repeat (first | apply Kd.R_alloc | apply Kd.R_drewN | apply Kd.R_drew)); exact HO.out)); (case aS => exact (below_size (by repeat (first | (with_reducible first | exact HB.out | apply below_alloc | apply pw_below_drewN | apply below_drew1) | exact HB.out)))); (case aL => omega); intro v109 w9 ho hb hg hat; rw [← HY.out] at ho; have n1_ := Aside0.mk (hb); have n2_ := Aside0.mk (ho); clear HB; clear HO; have HB := n1_; have HO := n2_; clear n1_ n2_; clear ho hb hg hat))
        go_roundg (p - i)
        case measure => have := HI.out; omega
        case rel => exact ⟨i + 1, by simp, ⟨by have := HI.out; omega⟩, ⟨by omega⟩, HO, HB⟩
      | false =>
        rw [hq] at hc
        have HY := Aside0.mk (tkN_no hq)
        clear hq
        go_wp2
        go_roundg (p - i)
        case measure => have := HI.out; omega
        case rel => exact ⟨i + 1, by simp, ⟨by have := HI.out; omega⟩, ⟨by omega⟩, ⟨by rw [HY.out]; exact HO.out⟩, HB⟩
    · have e : i = p := by have := HI.out; have := HK.out; omega
      subst e
      go_wp2
      go_ret
      exact ⟨_, rfl, HO.out, HB.out⟩

end Go.Proofs.Ytcfokcdmkhljoaa.Sp
