/- Layer 6, space: Claim, Give; maps that nobody made. -/
import Derived.Test.YtcfokcdmkhljoaaSpF
namespace Go.Proofs.Ytcfokcdmkhljoaa.Sp
open Go.RowKit Go.Proofs.YtcfokcdmkhljoaaW.PrintWords Go.Proofs.YtcfokcdmkhljoaaW.PrintLast Go.Proofs.YtcfokcdmkhljoaaW.PrintMore
open Go.Proofs.Ytcfokcdmkhljoaa.PSpaceRuns
set_option linter.unusedVariables false
set_option linter.unusedSimpArgs false

/-- what a call that claims or gives back leaves -/
def Turned (R : Except Int (List Bool)) (T : List Bool) (p g : Nat) (w : World) (e : Ending) (w' : World) : Prop :=
  ∃ (k : Int) (T' : List Bool), (R = .error k ∧ T' = T ∨ R = .ok T' ∧ k = 0) ∧ e = .returned (.int .i64 k) ∧ MapAt w' g T' p ∧ w.grownBy w' (some g)
theorem grown_left {w w1 W : World} {g : Nat} (h : Below w.heap.size w w1) (k : w1.grownBy W (some g)) : w.grownBy W (some g) :=
  grown_new (grown_below h (some g)) k (fun b hb => .inl (by injection hb with hb; exact hb.symm))

theorem claim_is {w : World} {g : Nat} {T : List Bool} {p : Nat} (h : MapAt w g T p) (A : Option Addr) (c : Nat) (l : List S44) (hr : ∀ W_, w.grownBy W_ (some g) → Kd.C k44 W_ A l.length l) (hc : l.length ≤ c) :
    Calls Try.prog 22 #[.pointer (some ⟨g, 0, none⟩), .slice A l.length c] w (Turned (allR true 61 p l T) T p g w) := by
  have H := Aside0.mk h
  have HR := Aside0.mk hr
  clear h hr
  go_enter Try.func22, Try.ntmps22
  go_wp2_with (first | (go_at_call 30; refine (none_no (H.out.drewN 0)).mono ?_; rintro e w' ⟨rfl, ⟨n1, rfl⟩⟩) | (go_at_call 31; refine (all_claim (H.out.drewN _) A c l (fun W_ hg => HR.out W_ (grown_left (pw_below_drewN (Below.refl _ _) _) hg)) hc _ rfl).mono ?_; intro e w' hpost; have HP := Aside0.mk hpost; clear hpost; rcases HP.out with ⟨k, h1, rfl, h3, h4⟩ | ⟨T', h1, rfl, h3, h4⟩))
  · go_ret
    exact ⟨k, T, .inl ⟨h1, rfl⟩, rfl, h3, grown_left (pw_below_drewN (Below.refl _ _) _) h4⟩
  · go_ret
    exact ⟨0, T', .inr ⟨h1, rfl⟩, rfl, h3, grown_left (pw_below_drewN (Below.refl _ _) _) h4⟩
theorem give_is {w : World} {g : Nat} {T : List Bool} {p : Nat} (h : MapAt w g T p) (A : Option Addr) (c : Nat) (l : List S44) (hr : ∀ W_, w.grownBy W_ (some g) → Kd.C k44 W_ A l.length l) (hc : l.length ≤ c) :
    Calls Try.prog 17 #[.pointer (some ⟨g, 0, none⟩), .slice A l.length c] w (Turned (allR false 62 p l T) T p g w) := by
  have H := Aside0.mk h
  have HR := Aside0.mk hr
  clear h hr
  go_enter Try.func17, Try.ntmps17
  go_wp2_with (first | (go_at_call 30; refine (none_no (H.out.drewN 0)).mono ?_; rintro e w' ⟨rfl, ⟨n1, rfl⟩⟩) | (go_at_call 31; refine (all_free (H.out.drewN _) A c l (fun W_ hg => HR.out W_ (grown_left (pw_below_drewN (Below.refl _ _) _) hg)) hc _ rfl).mono ?_; intro e w' hpost; have HP := Aside0.mk hpost; clear hpost; rcases HP.out with ⟨k, h1, rfl, h3, h4⟩ | ⟨T', h1, rfl, h3, h4⟩))
  · go_ret
    exact ⟨k, T, .inl ⟨h1, rfl⟩, rfl, h3, grown_left (pw_below_drewN (Below.refl _ _) _) h4⟩
  · go_ret
    exact ⟨0, T', .inr ⟨h1, rfl⟩, rfl, h3, grown_left (pw_below_drewN (Below.refl _ _) _) h4⟩

/-- a map that nobody made -/
def NoMap (w : World) (q : Option Addr) : Prop := q = none ∨ ∃ g, q = some ⟨g, 0, none⟩ ∧ w.heap[g]? = some (.cells (mcells zT 0 false) 63 (0, 0))
theorem NoMap.below {w w1 : World} {q : Option Addr} (h : NoMap w q) (hb : Below w.heap.size w w1) : NoMap w1 q := by
  rcases h with h | ⟨g, h, hg⟩
  · exact .inl h
  · exact .inr ⟨g, h, (hb.block g (blk_lt hg)).trans hg⟩
theorem none_nm {w : World} {q : Option Addr} (h : NoMap w q) : Calls Try.prog 30 #[.pointer q] w fun e w' => e = .returned (.bool true) ∧ Drawn0 w w' := by
  rcases h with rfl | ⟨g, rfl, hg⟩
  · exact none_yes w
  · have h1 : w.cell? ⟨g, 512, none⟩ = some (.bool false) := (blk_cell hg 512).trans (mcells_made zT_len)
    clear hg
    go_enter Try.func30, Try.ntmps30
    go_wp2
    go_ret
    exact ⟨rfl, ⟨⟨0, rfl⟩⟩⟩
theorem len_nm {w : World} {q : Option Addr} (h : NoMap w q) : Calls Try.prog 16 #[.pointer q] w fun e w' => e = .returned (.int .i64 0) ∧ Drawn0 w w' := by
  have H := Aside0.mk h
  clear h
  go_enter Try.func16, Try.ntmps16
  go_wp2_with (first | (go_at_call 30; refine (none_nm H.out).mono ?_; rintro e w' ⟨rfl, ⟨n, rfl⟩⟩))
  go_ret
  exact ⟨rfl, ⟨⟨_, rfl⟩⟩⟩
theorem taken_nm {w : World} {q : Option Addr} (h : NoMap w q) : Calls Try.prog 19 #[.pointer q] w fun e w' => e = .returned (.slice none 0 0) ∧ Drawn0 w w' := by
  have H := Aside0.mk h
  clear h
  go_enter Try.func19, Try.ntmps19
  go_wp2_with (first | (go_at_call 16; refine (len_nm H.out).mono ?_; rintro e w' ⟨rfl, ⟨n, rfl⟩⟩))
  go_loopg [3, 7] 1 (fun kq v3 v7 w' => v3 = .slice none 0 0 ∧ v7 = .int .i64 0 ∧ Aside0 (Drawn0 w w'))
  case atStart => exact ⟨rfl, rfl, ⟨⟨_, rfl⟩⟩⟩
  case round =>
    obtain ⟨rfl, rfl, HD⟩ := hrel
    go_wp2
    go_ret
    exact ⟨rfl, HD.out⟩
theorem free_nm {w : World} {q : Option Addr} (h : NoMap w q) : Calls Try.prog 20 #[.pointer q] w fun e w' => e = .returned (.int .i64 0) ∧ Drawn0 w w' := by
  have H := Aside0.mk h
  clear h
  go_enter Try.func20, Try.ntmps20
  go_wp2_with (first | (go_at_call 16; refine (len_nm H.out).mono ?_; rintro e w' ⟨rfl, ⟨n, rfl⟩⟩) | (go_at_call 19; refine (taken_nm (H.out.below (pw_below_drewN (Below.refl _ _) _))).mono ?_; rintro e w' ⟨rfl, ⟨n2, rfl⟩⟩))
  go_ret
  exact ⟨rfl, ⟨⟨_, rfl⟩⟩⟩
theorem fork_nm {w : World} {q : Option Addr} (h : NoMap w q) : Calls Try.prog 27 #[.pointer q] w fun e w' => e = .returned (.pointer none) ∧ Drawn0 w w' := by
  have H := Aside0.mk h
  clear h
  go_enter Try.func27, Try.ntmps27
  go_wp2_with (first | (go_at_call 30; refine (none_nm H.out).mono ?_; rintro e w' ⟨rfl, ⟨n, rfl⟩⟩))
  go_ret
  exact ⟨rfl, ⟨⟨_, rfl⟩⟩⟩
theorem take_nm {w : World} {q : Option Addr} (h : NoMap w q) (n : Int) : Calls Try.prog 18 #[.pointer q, .int .i64 n] w fun e w' => e = .returned (.tuple #[.slice none 0 0, .int .i64 4]) ∧ Drawn0 w w' := by
  have H := Aside0.mk h
  clear h
  go_enter Try.func18, Try.ntmps18
  go_wp2_with (first | (go_at_call 30; refine (none_nm H.out).mono ?_; rintro e w' ⟨rfl, ⟨n, rfl⟩⟩))
  go_ret2
  exact ⟨rfl, ⟨⟨_, rfl⟩⟩⟩
theorem claim_nm {w : World} {q : Option Addr} (h : NoMap w q) (v : Value) : Calls Try.prog 22 #[.pointer q, v] w fun e w' => e = .returned (.int .i64 4) ∧ Drawn0 w w' := by
  have H := Aside0.mk h
  clear h
  go_enter Try.func22, Try.ntmps22
  go_wp2_with (first | (go_at_call 30; refine (none_nm H.out).mono ?_; rintro e w' ⟨rfl, ⟨n, rfl⟩⟩))
  go_ret
  exact ⟨rfl, ⟨⟨_, rfl⟩⟩⟩
theorem give_nm {w : World} {q : Option Addr} (h : NoMap w q) (v : Value) : Calls Try.prog 17 #[.pointer q, v] w fun e w' => e = .returned (.int .i64 4) ∧ Drawn0 w w' := by
  have H := Aside0.mk h
  clear h
  go_enter Try.func17, Try.ntmps17
  go_wp2_with (first | (go_at_call 30; refine (none_nm H.out).mono ?_; rintro e w' ⟨rfl, ⟨n, rfl⟩⟩))
  go_ret
  exact ⟨rfl, ⟨⟨_, rfl⟩⟩⟩
end Go.Proofs.Ytcfokcdmkhljoaa.Sp
