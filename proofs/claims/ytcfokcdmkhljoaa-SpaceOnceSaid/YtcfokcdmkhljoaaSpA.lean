/- Layer 6, space: contracts of the map's methods that loop over nothing. -/
import Derived.Test.YtcfokcdmkhljoaaPSpaceRunsx0
import Derived.Outline
namespace Go.Proofs.Ytcfokcdmkhljoaa.Sp
open Go.RowKit Go.Proofs.YtcfokcdmkhljoaaW.PrintWords Go.Proofs.YtcfokcdmkhljoaaW.PrintLast Go.Proofs.YtcfokcdmkhljoaaW.PrintMore
open Go.Proofs.Ytcfokcdmkhljoaa.PSpaceRuns
set_option linter.unusedVariables false
set_option linter.unusedSimpArgs false

/-- the cells of a map -/
def mcells (T : List Bool) (p : Nat) (m : Bool) : Array Value := (T.map Value.bool ++ [Value.int .i64 (p : Int), Value.bool m]).toArray
structure MapAt (w : World) (g : Nat) (T : List Bool) (p : Nat) : Prop where
  len : T.length = 511
  few : p ≤ 511
  blk : w.heap[g]? = some (.cells (mcells T p true) 63 (0, 0))

theorem mcells_at {T : List Bool} {p : Nat} {m : Bool} (i : Nat) (h : i < T.length) : (mcells T p m)[i]? = some (.bool (T.getD i false)) := by
  simp [mcells, h, List.getElem?_append]
theorem mcells_plots {T : List Bool} {p : Nat} {m : Bool} (h : T.length = 511) : (mcells T p m)[511]? = some (.int .i64 p) := by
  simp [mcells, h]
theorem mcells_made {T : List Bool} {p : Nat} {m : Bool} (h : T.length = 511) : (mcells T p m)[512]? = some (.bool m) := by
  simp [mcells, h]
theorem mcells_set {T : List Bool} {p : Nat} {m : Bool} (i : Nat) (h : i < T.length) (b : Bool) : (mcells T p m).setIfInBounds i (.bool b) = mcells (T.set i b) p m := by
  simp [mcells, List.set_append, h, List.map_set]
theorem MapAt.plots {w : World} {g : Nat} {T : List Bool} {p : Nat} (h : MapAt w g T p) : w.cell? ⟨g, 511, none⟩ = some (.int .i64 p) := (blk_cell h.blk 511).trans (mcells_plots h.len)
theorem MapAt.made {w : World} {g : Nat} {T : List Bool} {p : Nat} (h : MapAt w g T p) : w.cell? ⟨g, 512, none⟩ = some (.bool true) := (blk_cell h.blk 512).trans (mcells_made h.len)
theorem MapAt.at_ {w : World} {g : Nat} {T : List Bool} {p : Nat} (h : MapAt w g T p) (i : Nat) (hi : i < 511) : w.cell? ⟨g, i, none⟩ = some (.bool (T.getD i false)) := (blk_cell h.blk i).trans (mcells_at i (h.len ▸ hi))
theorem MapAt.set_ {w : World} {g : Nat} {T : List Bool} {p : Nat} (h : MapAt w g T p) (i : Nat) (hi : i < 511) (b : Bool) : MapAt (w.setCell ⟨g, i, none⟩ (.bool b)) g (T.set i b) p :=
  ⟨by simp [h.len], h.few, by rw [blk_set h.blk, mcells_set i (h.len ▸ hi)]⟩
theorem MapAt.drewN {w : World} {g : Nat} {T : List Bool} {p : Nat} (h : MapAt w g T p) (n : Nat) : MapAt (w.drewN n) g T p := ⟨h.len, h.few, h.blk⟩
theorem MapAt.below {w w1 : World} {g : Nat} {T : List Bool} {p : Nat} (h : MapAt w g T p) (hb : Below w.heap.size w w1) : MapAt w1 g T p := ⟨h.len, h.few, (hb.block g (blk_lt h.blk)).trans h.blk⟩
theorem MapAt.lt {w : World} {g : Nat} {T : List Bool} {p : Nat} (h : MapAt w g T p) : g < w.heap.size := blk_lt h.blk

theorem none_yes (w : World) : Calls Try.prog 30 #[.pointer none] w fun e w' => e = .returned (.bool true) ∧ Drawn0 w w' := by
  go_enter Try.func30, Try.ntmps30
  go_wp2
  go_ret
  exact ⟨rfl, ⟨⟨0, rfl⟩⟩⟩

theorem none_no {w : World} {g : Nat} {T : List Bool} {p : Nat} (h : MapAt w g T p) : Calls Try.prog 30 #[.pointer (some ⟨g, 0, none⟩)] w fun e w' => e = .returned (.bool false) ∧ Drawn0 w w' := by
  have h1 := h.made
  clear h
  go_enter Try.func30, Try.ntmps30
  go_wp2
  go_ret
  exact ⟨rfl, ⟨⟨0, rfl⟩⟩⟩

theorem len_is {w : World} {g : Nat} {T : List Bool} {p : Nat} (h : MapAt w g T p) : Calls Try.prog 16 #[.pointer (some ⟨g, 0, none⟩)] w fun e w' => e = .returned (.int .i64 p) ∧ Drawn0 w w' := by
  have h1 := h.plots
  have H := Aside0.mk h
  clear h
  go_enter Try.func16, Try.ntmps16
  go_wp2_with (first | (go_at_call 30; refine (none_no (H.out.drewN 0)).mono ?_; rintro e w' ⟨rfl, ⟨n, rfl⟩⟩))
  go_ret
  exact ⟨rfl, ⟨⟨_, rfl⟩⟩⟩

theorem claim_ok {w : World} {g : Nat} {T : List Bool} {p : Nat} (h : MapAt w g T p) (k : Nat) (hk : k < 511) (hf : T.getD k false = false) :
    Calls Try.prog 33 #[.pointer (some ⟨g, 0, none⟩), .int .i64 k] w fun e w' => e = .returned (.int .i64 0) ∧ w' = w.setCell ⟨g, k, none⟩ (.bool true) := by
  have h1 := h.at_ k hk
  rw [hf] at h1
  have h2 : w.frozen? ⟨g, k, none⟩ = false := blk_frozen h.blk k
  clear h hf
  go_enter Try.func33, Try.ntmps33
  go_wp2
  go_ret
  exact ⟨rfl, rfl⟩

theorem claim_no {w : World} {g : Nat} {T : List Bool} {p : Nat} (h : MapAt w g T p) (k : Nat) (hk : k < 511) (hf : T.getD k false = true) :
    Calls Try.prog 33 #[.pointer (some ⟨g, 0, none⟩), .int .i64 k] w fun e w' => e = .returned (.int .i64 61) ∧ w' = w := by
  have h1 := h.at_ k hk
  rw [hf] at h1
  clear h hf
  go_enter Try.func33, Try.ntmps33
  go_wp2
  go_ret
  exact ⟨rfl, rfl⟩
theorem free_ok {w : World} {g : Nat} {T : List Bool} {p : Nat} (h : MapAt w g T p) (k : Nat) (hk : k < 511) (hf : T.getD k false = true) :
    Calls Try.prog 32 #[.pointer (some ⟨g, 0, none⟩), .int .i64 k] w fun e w' => e = .returned (.int .i64 0) ∧ w' = w.setCell ⟨g, k, none⟩ (.bool false) := by
  have h1 := h.at_ k hk
  rw [hf] at h1
  have h2 : w.frozen? ⟨g, k, none⟩ = false := blk_frozen h.blk k
  clear h hf
  go_enter Try.func32, Try.ntmps32
  go_wp2
  go_ret
  exact ⟨rfl, rfl⟩
theorem free_no {w : World} {g : Nat} {T : List Bool} {p : Nat} (h : MapAt w g T p) (k : Nat) (hk : k < 511) (hf : T.getD k false = false) :
    Calls Try.prog 32 #[.pointer (some ⟨g, 0, none⟩), .int .i64 k] w fun e w' => e = .returned (.int .i64 62) ∧ w' = w := by
  have h1 := h.at_ k hk
  rw [hf] at h1
  clear h hf
  go_enter Try.func32, Try.ntmps32
  go_wp2
  go_ret
  exact ⟨rfl, rfl⟩
end Go.Proofs.Ytcfokcdmkhljoaa.Sp
