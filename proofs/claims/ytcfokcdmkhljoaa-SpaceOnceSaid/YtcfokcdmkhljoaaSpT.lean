/- Layer 6, space: the walk of the statement SpaceOrder. -/
import Derived.Test.YtcfokcdmkhljoaaSpS
import Derived.Test.YtcfokcdmkhljoaaSpQ
import Derived.Test.YtcfokcdmkhljoaaSpO
import Derived.StillTailTactics
namespace Go.Proofs.Ytcfokcdmkhljoaa.Sp
open Go.RowKit Go.Proofs.YtcfokcdmkhljoaaW.PrintWords Go.Proofs.YtcfokcdmkhljoaaW.PrintLast Go.Proofs.YtcfokcdmkhljoaaW.PrintMore
open Go.Proofs.Ytcfokcdmkhljoaa.PSpaceRuns
set_option linter.unusedVariables false
set_option linter.unusedSimpArgs false

theorem u16_bd {a : Int} (h : (Lit.int .u16 a).wf = true) : 0 ≤ a ∧ a ≤ 65535 := by
  simp only [Lit.wf, Bool.and_eq_true, decide_eq_true_eq, IntKind.min, IntKind.max, IntKind.signed, IntKind.bits] at h
  simp at h
  omega
theorem heap44 : Kd.Heap k44 := Kd.heap_iso _ (Kd.heap_pair (Kd.heap_int _) (Kd.heap_int _))
theorem few_is' (A : Option Addr) (l L : List S44) (hL : L = l.take 300) (c : Nat) (hc : l.length ≤ c) (w : World) :
    Calls Try.prog 21 #[.slice A l.length c] w fun e w' => e = .returned (.slice A L.length c) ∧ w = w' := by
  refine (few_is A l.length c hc w).mono ?_
  rintro e w' ⟨rfl, rfl⟩
  refine ⟨?_, rfl⟩
  rw [hL, List.length_take, Nat.min_comm]
theorem R_tight {e base : Nat} {ok : Nat → Prop} {W : World} {v : Value} {l : List Bool} (h : Kd.R Kd.bool e W base ok v l) : Kd.R Kd.bool e W base (fun k => v.ownBlock = some k) v l := Kd.R_of_own (Kd.own_of_R h) (fun _ hk => hk)
theorem R_any {α : Type} {d : Kd α} {e base : Nat} {ok : Nat → Prop} {W : World} {v : Value} {l : List α} (h : d.R e W base ok v l) : d.R e W base (fun _ => True) v l := Kd.R_mono h (fun _ _ => trivial)
/-- the block of a list of the document's alone may have been written -/
def KeptV (W W' : World) (v : Value) : Prop := Kept W W' (fun k => v.ownBlock = some k)
theorem MapAt.kept {W W' : World} {g : Nat} {T : List Bool} {p : Nat} {v : Value} {base : Nat} {ok : Nat → Prop} {l : List Bool} (h : MapAt W g T p) (hk : KeptV W W' v) (hR : Kd.R Kd.bool 4 W base ok v l) : MapAt W' g T p :=
  ⟨h.len, h.few, blk_kept h.blk hk (fun e => Kd.R_ne hR h.blk (by decide) e.symm)⟩
theorem blk_keptV {W W' : World} {g t : Nat} {cs : Array Value} {v : Value} {base : Nat} {ok : Nat → Prop} {l : List Bool} (h : W.heap[g]? = some (.cells cs t (0, 0))) (ht : 4 ≠ t) (hk : KeptV W W' v) (hR : Kd.R Kd.bool 4 W base ok v l) : W'.heap[g]? = some (.cells cs t (0, 0)) :=
  blk_kept h hk (fun e => Kd.R_ne hR h ht e.symm)
theorem rclaim_is {w W : World} {v : Value} {l : List Bool} (hB : Below w.heap.size w W) (hR : Kd.R Kd.bool 4 W w.heap.size (fun _ => True) v l) (A : Option Addr) (c : Nat) (L : List S44) (hr : ∀ W_, KeptV W W_ v → Kd.C k44 W_ A L.length L) (hc : L.length ≤ c) (k : Nat) (r1 : List Bool) (r2 : Int) (hf : lienref06_Claim.f k l L = some (r1, r2)) :
    Calls Try.prog 23 #[.agg #[v], .slice A L.length c] W fun e W' => ∃ v', e = .returned (.tuple #[.agg #[v'], .int .i64 r2]) ∧ Kd.R Kd.bool 4 W' w.heap.size (fun _ => True) v' r1 ∧ Below w.heap.size w W' ∧ KeptV W W' v := by
  refine (lienref06_Claim.calls k _ v l A c L r1 r2 w W hB (R_tight hR) hr hc hf).mono ?_
  rintro e W' ⟨v', rfl, h1, h2, h3⟩
  exact ⟨v', rfl, R_any h1, h2, h3⟩
theorem rgive_is {w W : World} {v : Value} {l : List Bool} (hB : Below w.heap.size w W) (hR : Kd.R Kd.bool 4 W w.heap.size (fun _ => True) v l) (A : Option Addr) (c : Nat) (L : List S44) (hr : ∀ W_, KeptV W W_ v → Kd.C k44 W_ A L.length L) (hc : L.length ≤ c) (k : Nat) (r1 : List Bool) (r2 : Int) (hf : lienref06_Give.f k l L = some (r1, r2)) :
    Calls Try.prog 24 #[.agg #[v], .slice A L.length c] W fun e W' => ∃ v', e = .returned (.tuple #[.agg #[v'], .int .i64 r2]) ∧ Kd.R Kd.bool 4 W' w.heap.size (fun _ => True) v' r1 ∧ Below w.heap.size w W' ∧ KeptV W W' v := by
  refine (lienref06_Give.calls k _ v l A c L r1 r2 w W hB (R_tight hR) hr hc hf).mono ?_
  rintro e W' ⟨v', rfl, h1, h2, h3⟩
  exact ⟨v', rfl, R_any h1, h2, h3⟩
theorem rtake_is {w W : World} {v : Value} {l : List Bool} (hB : Below w.heap.size w W) (hR : Kd.R Kd.bool 4 W w.heap.size (fun _ => True) v l) (n : Int) (k : Nat) (r1 : List Bool) (r2 : List S44) (r3 : Int) (hf : lienref06_Take.f k l n = some (r1, r2, r3)) :
    Calls Try.prog 25 #[.agg #[v], .int .i64 n] W fun e W' => ∃ v' u', e = .returned (.tuple #[.agg #[v'], u', .int .i64 r3]) ∧ Kd.R Kd.bool 4 W' w.heap.size (fun _ => True) v' r1 ∧ Kd.R k44 44 W' w.heap.size (fun _ => True) u' r2 ∧ Below w.heap.size w W' ∧ KeptV W W' v := by
  refine (lienref06_Take.calls k _ v l n r1 r2 r3 w W hB (R_tight hR) hf).mono ?_
  rintro e W' ⟨v', u', rfl, h1, h2, h3, h4⟩
  exact ⟨v', u', rfl, R_any h1, R_any h2, h3, h4⟩
theorem allR_err {b : Bool} {bad : Int} {p : Nat} : ∀ {L : List S44} {T : List Bool} {e : Int}, allR b bad p L T = .error e → e = 5 ∨ e = bad := by
  have hstep : ∀ {T : List Bool} {y e : Int}, stepT b bad p T y = .error e → e = 5 ∨ e = bad := by
    intro T y e h
    unfold stepT at h
    split at h
    · split at h
      · split at h
        · injection h with h; exact .inr h.symm
        · cases h
      · injection h with h; exact .inl h.symm
    · injection h with h; exact .inl h.symm
  intro L T e h
  rw [allR_seq] at h
  generalize flat L = ks at h
  induction ks generalizing T with
  | nil => cases h
  | cons y ks ih =>
    simp only [seqR] at h
    cases hs : stepT b bad p T y with
    | error e2 => rw [hs] at h; injection h with h; subst h; exact hstep hs
    | ok T2 => rw [hs] at h; exact ih h
/-- Claim, by its answer. -/
theorem claim_e {w : World} {g : Nat} {T : List Bool} {p : Nat} (h : MapAt w g T p) (A : Option Addr) (c : Nat) (l : List S44) (hr : ∀ W_, w.grownBy W_ (some g) → Kd.C k44 W_ A l.length l) (hc : l.length ≤ c) (x : Int) (T2 : List Bool) (hx : (∃ e, allR true 61 p l T = .error e ∧ x = e ∧ T2 = T) ∨ (allR true 61 p l T = .ok T2 ∧ x = 0)) :
    Calls Try.prog 22 #[.pointer (some ⟨g, 0, none⟩), .slice A l.length c] w fun e w' => e = .returned (.int .i64 x) ∧ MapAt w' g T2 p ∧ w.grownBy w' (some g) := by
  refine (claim_is h A c l hr hc).mono ?_
  rintro e w' ⟨k, T', hk, rfl, hm, hg⟩
  rcases hk with ⟨h1, rfl⟩ | ⟨h1, rfl⟩
  · rcases hx with ⟨e, h2, rfl, rfl⟩ | ⟨h2, rfl⟩
    · rw [h1] at h2; injection h2 with h2; subst h2; exact ⟨rfl, hm, hg⟩
    · rw [h1] at h2; cases h2
  · rcases hx with ⟨e, h2, rfl, rfl⟩ | ⟨h2, rfl⟩
    · rw [h1] at h2; cases h2
    · rw [h1] at h2; injection h2 with h2; subst h2; exact ⟨rfl, hm, hg⟩
theorem give_e {w : World} {g : Nat} {T : List Bool} {p : Nat} (h : MapAt w g T p) (A : Option Addr) (c : Nat) (l : List S44) (hr : ∀ W_, w.grownBy W_ (some g) → Kd.C k44 W_ A l.length l) (hc : l.length ≤ c) (x : Int) (T2 : List Bool) (hx : (∃ e, allR false 62 p l T = .error e ∧ x = e ∧ T2 = T) ∨ (allR false 62 p l T = .ok T2 ∧ x = 0)) :
    Calls Try.prog 17 #[.pointer (some ⟨g, 0, none⟩), .slice A l.length c] w fun e w' => e = .returned (.int .i64 x) ∧ MapAt w' g T2 p ∧ w.grownBy w' (some g) := by
  refine (give_is h A c l hr hc).mono ?_
  rintro e w' ⟨k, T', hk, rfl, hm, hg⟩
  rcases hk with ⟨h1, rfl⟩ | ⟨h1, rfl⟩
  · rcases hx with ⟨e, h2, rfl, rfl⟩ | ⟨h2, rfl⟩
    · rw [h1] at h2; injection h2 with h2; subst h2; exact ⟨rfl, hm, hg⟩
    · rw [h1] at h2; cases h2
  · rcases hx with ⟨e, h2, rfl, rfl⟩ | ⟨h2, rfl⟩
    · rw [h1] at h2; cases h2
    · rw [h1] at h2; injection h2 with h2; subst h2; exact ⟨rfl, hm, hg⟩
end Go.Proofs.Ytcfokcdmkhljoaa.Sp
