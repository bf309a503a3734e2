/- Layer 6, space: Take. -/
import Derived.Test.YtcfokcdmkhljoaaSpC
namespace Go.Proofs.Ytcfokcdmkhljoaa.Sp
open Go.RowKit Go.Proofs.YtcfokcdmkhljoaaW.PrintWords Go.Proofs.YtcfokcdmkhljoaaW.PrintLast Go.Proofs.YtcfokcdmkhljoaaW.PrintMore
open Go.Proofs.Ytcfokcdmkhljoaa.PSpaceRuns
set_option linter.unusedVariables false
set_option linter.unusedSimpArgs false

/-- the loop of Take -/
def takeL (p : Nat) (n : Int) : Nat → List Bool → Int → Nat → List S44 → List Bool × List S44
  | 0, T, _, _, out => (T, out)
  | f + 1, T, first, k, out =>
    if k < p then
      if (out.length : Int) < n then
        if T.getD k false = true then takeL p n f T first (k + 1) out
        else if first < 0 then takeL p n f (T.set k true) k (k + 1) out
        else takeL p n f (T.set k true) (-1) (k + 1) (out ++ [⟨first, k⟩])
      else (T, out)
    else (T, out)

theorem grown_new {w W w1 : World} {g : Nat} {r : Option Nat} (h : w.grownBy W (some g)) (k : W.grownBy w1 r) (hr : ∀ b, r = some b → b = g ∨ w.heap.size ≤ b) : w.grownBy w1 (some g) :=
  ⟨k.os.trans h.os, k.tape.trans h.tape, k.output.trans h.output, Nat.le_trans h.size k.size, fun i hi hn => (k.block i (Nat.lt_of_lt_of_le hi h.size) (fun e => by
    rcases hr i e.symm with e1 | e1
    · exact hn (by rw [e1])
    · omega)).trans (h.block i hi hn)⟩
theorem grown_set {w W : World} {g : Nat} (h : w.grownBy W (some g)) (i : Nat) (v : Value) : w.grownBy (W.setCell ⟨g, i, none⟩ v) (some g) :=
  ⟨h.os, h.tape, h.output, by simp [World.setCell]; exact h.size, fun j hj hn => (Below.heap_setCell W ⟨g, i, none⟩ v j (fun e => hn (by rw [e]))).trans (h.block j hj hn)⟩
theorem grown_refl (w : World) (r : Option Nat) : w.grownBy w r := ⟨rfl, rfl, rfl, Nat.le_refl _, fun _ _ _ => rfl⟩
theorem grown_below {w W : World} (h : Below w.heap.size w W) (r : Option Nat) : w.grownBy W r := grown_of_below h r
theorem MapAt.grown {w w1 : World} {g : Nat} {T : List Bool} {p : Nat} (h : MapAt w g T p) {r : Option Nat} (hg : w.grownBy w1 r) (hr : some g ≠ r) : MapAt w1 g T p := ⟨h.len, h.few, (hg.block g (blk_lt h.blk) hr).trans h.blk⟩

theorem R_set_old {α : Type} {d : Kd α} {e base g : Nat} {ok : Nat → Prop} {W : World} {v : Value} {xs : List α} (h : d.R e W base ok v xs) (hg : g < base) (i : Nat) (u : Value) : d.R e (W.setCell ⟨g, i, none⟩ u) base ok v xs :=
  Kd.R_mono (Kd.R_far (Kd.R_bound h) (p := ⟨g, i, none⟩) (fun k hk => by have := hk.2.1; show k ≠ g; omega) u) (fun k hk => hk.1)

theorem sc_size (w : World) (a : Addr) (v : Value) : (w.setCell a v).heap.size = w.heap.size := by simp [World.setCell]
theorem take_arg {w : World} {g : Nat} {T : List Bool} {p : Nat} (h : MapAt w g T p) (n : Int) (hn : n < 0 ∨ 64 < n) :
    Calls Try.prog 18 #[.pointer (some ⟨g, 0, none⟩), .int .i64 n] w fun e w' => e = .returned (.tuple #[.slice none 0 0, .int .i64 1]) ∧ Drawn0 w w' := by
  have H := Aside0.mk h
  clear h
  by_cases h1 : n < 0
  all_goals
    go_enter Try.func18, Try.ntmps18
    go_wp2_with (first | (go_at_call 30; refine (none_no (H.out.drewN 0)).mono ?_; rintro e w' ⟨rfl, ⟨n1, rfl⟩⟩))
    go_ret2
    exact ⟨rfl, ⟨⟨_, rfl⟩⟩⟩

theorem take_space {w : World} {g : Nat} {T : List Bool} {p : Nat} (h : MapAt w g T p) (n : Int) (h0 : 0 ≤ n) (h1 : n ≤ 64) (h2 : (p : Int) - (tkN T p).length < 2 * n) :
    Calls Try.prog 18 #[.pointer (some ⟨g, 0, none⟩), .int .i64 n] w fun e w' => e = .returned (.tuple #[.slice none 0 0, .int .i64 60]) ∧ Below w.heap.size w w' := by
  have H := Aside0.mk h
  clear h
  go_enter Try.func18, Try.ntmps18
  go_wp2_with (first | (go_at_call 30; refine (none_no (H.out.drewN 0)).mono ?_; rintro e w' ⟨rfl, ⟨n1, rfl⟩⟩) | (go_at_call 20; refine (free_is (H.out.drewN _)).mono ?_; rintro e w' ⟨rfl, hB⟩; have HB := Aside0.mk hB; clear hB))
  go_ret2
  exact ⟨rfl, below_step (pw_below_drewN (Below.refl _ _) _) HB.out⟩

set_option maxHeartbeats 4000000 in
theorem take_ok {w : World} {g : Nat} {T : List Bool} {p : Nat} (h : MapAt w g T p) (n : Int) (h0 : 0 ≤ n) (h1 : n ≤ 64) (h2 : 2 * n ≤ (p : Int) - (tkN T p).length) (T' : List Bool) (out' : List S44) (hl : takeL p n (p + 1) T (-1) 0 [] = (T', out')) :
    Calls Try.prog 18 #[.pointer (some ⟨g, 0, none⟩), .int .i64 n] w fun e w' => ∃ v : Value, e = .returned (.tuple #[v, .int .i64 0]) ∧ Kd.R k44 44 w' w.heap.size (fun _ => True) v out' ∧ MapAt w' g T' p ∧ w.grownBy w' (some g) := by
  have H := Aside0.mk h
  have HL := Aside0.mk hl
  have hp := h.few
  have hgw := Aside0.mk h.lt
  clear h hl
  go_enter Try.func18, Try.ntmps18
  go_wp2_with (first | (go_at_call 30; refine (none_no (H.out.drewN 0)).mono ?_; rintro e w' ⟨rfl, ⟨n1, rfl⟩⟩) | (go_at_call 20; refine (free_is (H.out.drewN _)).mono ?_; rintro e w' ⟨rfl, hB⟩; have HB := Aside0.mk (below_step (pw_below_drewN (Below.refl w.heap.size w) _) hB); clear hB))
  clear h2
  go_loopg [6, 7, 8] (p + 1) (fun kq v6 v7 v8 w' => ∃ (i : Nat) (first : Int) (T1 : List Bool) (out : List S44), v8 = .int .i64 i ∧ v7 = .int .i64 first ∧ Aside0 (kq + i = p + 1) ∧ Aside0 (0 < kq) ∧ Aside0 (takeL p n kq T1 first i out = (T', out')) ∧ Aside0 (out.length ≤ i) ∧ Aside0 (Kd.R k44 44 w' w.heap.size (fun _ => True) v6 out) ∧ Aside0 (MapAt w' g T1 p) ∧ Aside0 (w.grownBy w' (some g)))
  case atStart => exact ⟨0, -1, T, [], rfl, rfl, ⟨by omega⟩, ⟨by omega⟩, HL, ⟨by simp⟩, ⟨Kd.R_nil _ _ _ _ _⟩, ⟨H.out.below HB.out⟩, ⟨grown_below HB.out _⟩⟩
  case round =>
    obtain ⟨i, first, T1, out, rfl, rfl, HI, HZ, HA, HK, HO, HM, HG⟩ := hrel
    clear H HB HL
    obtain ⟨A6, c6, rfl⟩ := Kd.R_slice HO.out
    cases gk with
    | zero => exact absurd HZ.out (by omega)
    | succ k1 =>
      have hpl := HM.out.plots
      have ha := HA.out
      simp only [takeL] at ha
      clear HA
      by_cases hip : i < p
      · rw [if_pos hip] at ha
        have hi5 : i < 511 := by omega
        by_cases hno : (out.length : Int) < n
        · rw [if_pos hno] at ha
          have hcell := HM.out.at_ i hi5
          have hfz : wr.frozen? ⟨g, i, none⟩ = false := blk_frozen HM.out.blk i
          cases hq : T1.getD i false with
          | true =>
            rw [hq] at ha hcell
            rw [if_pos rfl] at ha
            have HA := Aside0.mk ha
            clear ha hq
            go_wp2
            go_roundg k1
            case measure => omega
            case rel => exact ⟨i + 1, first, T1, out, by simp, rfl, ⟨by have := HI.out; omega⟩, ⟨by have := HI.out; omega⟩, HA, ⟨by have := HK.out; omega⟩, HO, HM, HG⟩
          | false =>
            rw [hq] at ha hcell
            rw [if_neg (by decide)] at ha
            have hmem := HM.out.set_ i hi5 true
            by_cases hf : first < 0
            · rw [if_pos hf] at ha
              have HA := Aside0.mk ha
              have HM2 := Aside0.mk hmem
              clear ha hq hmem
              go_wp2
              go_roundg k1
              case measure => omega
              case rel => exact ⟨i + 1, i, T1.set i true, out, by simp, rfl, ⟨by have := HI.out; omega⟩, ⟨by have := HI.out; omega⟩, HA, ⟨by have := HK.out; omega⟩, ⟨R_set_old HO.out hgw.out _ _⟩, HM2, ⟨grown_set HG.out _ _⟩⟩
            · rw [if_neg hf] at ha
              have HA := Aside0.mk ha
              have HM2 := Aside0.mk hmem
              clear ha hq hmem
              have HO1 := Aside0.mk (R_set_old HO.out hgw.out i (.bool true))
              have HG1 := Aside0.mk (grown_set HG.out i (.bool true))
              have hlen := HK.out
              go_wp2_with (first | ((with_reducible refine gate_builtin (b := .append) (xs := #[.tmp 50, .tmp 54]) rfl ?_); at_builtin; go_must (refine Kd.R_append k44 (w0 := wr.setCell ⟨g, i, none⟩ (.bool true)) w.heap.size rfl (.tmp 50) (.tmp 54) 42 44 (.agg #[(.int .i64 0), (.int .i64 0)]) 16 rfl Try.underlying42 info44 rfl (by decide) (by omega) (.slice A6 out.length c6) out (⟨first, i⟩ : S44) [.int .i64 first, .int .i64 i] (fun _ => True) (fun _ => False) rfl (by rw [sc_size]; rfl) ?aP (fun _ hk => hk.elim) ?aF ?aO ?aB ?aS ?aL ?_); (case aP => exact k44_mkM _ _ _ _); (case aB => exact Below.refl _ _); (case aF => exact (fun _ _ => trivial)); (case aO => exact HO1.out); (case aS => exact HG1.out.size); (case aL => omega); intro v109 w9 ho hb hg hat; have n1_ := Aside0.mk ho; have n2_ := Aside0.mk (grown_new HG1.out hg (fun b hb2 => .inr (Kd.R_base HO1.out b hb2))); have n3_ := Aside0.mk (HM2.out.grown hg (fun e => absurd (Kd.R_base HO1.out g e.symm) (by have := hgw.out; omega))); clear ho hb hg hat))
              go_roundg k1
              case measure => omega
              case rel => exact ⟨i + 1, -1, T1.set i true, _, by simp, rfl, ⟨by have := HI.out; omega⟩, ⟨by have := HI.out; omega⟩, HA, ⟨by simp; have := HK.out; omega⟩, n1_, n3_, n2_⟩
        · rw [if_neg hno] at ha
          obtain ⟨rfl, rfl⟩ := Prod.mk.inj ha
          clear ha
          go_wp2
          go_ret2
          exact ⟨_, rfl, HO.out, HM.out, HG.out⟩
      · rw [if_neg hip] at ha
        obtain ⟨rfl, rfl⟩ := Prod.mk.inj ha
        clear ha
        go_wp2
        go_ret2
        exact ⟨_, rfl, HO.out, HM.out, HG.out⟩
end Go.Proofs.Ytcfokcdmkhljoaa.Sp
