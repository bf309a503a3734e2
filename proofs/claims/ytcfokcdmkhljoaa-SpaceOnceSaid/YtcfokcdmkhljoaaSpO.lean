/- Layer 6, space: what the statements' arguments are: pairs, and steps. -/
import Derived.Test.YtcfokcdmkhljoaaOpn
import Derived.Test.YtcfokcdmkhljoaaPSpaceRunsx0
namespace Go.Proofs.Ytcfokcdmkhljoaa.Sp
open Go.RowKit Go.Proofs.YtcfokcdmkhljoaaW.PrintWords Go.Proofs.Ytcfokcdmkhljoaa.PSpaceRuns Go.Proofs.Ytcfokcdmkhljoaa.Opn
set_option linter.unusedVariables false

theorem opens44 : Opens Try.prog 44 k44 (fun _ => True) :=
  opens_imp (opens_struct (d := Kd.pair (Kd.int .i64) (Kd.int .i64)) (fun x : S44 => (x.f0, x.f1)) (fun p => ⟨p.1, p.2⟩) (fun _ => rfl) Try.underlying44 (by kernel_rfl) (fields_cons rfl (by kernel_rfl) (opens_int Try.underlying3) (fields_last rfl (by kernel_rfl) (opens_int Try.underlying3)))) (fun _ _ => trivial)
theorem opens42 : Opens Try.prog 42 (Kd.slice 44 k44) (fun l => l.length * 16 ≤ 140737488351232 ∧ l.length ≤ 9223372036854775807 ∧ ∀ a ∈ l, True) :=
  opens_slice Try.underlying42 opens44 (by kernel_rfl) (by kernel_rfl)
/-- a step -/
structure S55 where
  f0 : Int
  f1 : List S44
  f2 : Int
def z55 : S55 := ⟨0, [], 0⟩
def k55 : Kd S55 := Kd.iso (Kd.pair (Kd.int .u8) (Kd.pair (Kd.slice 44 k44) (Kd.int .i64))) (fun x : S55 => (x.f0, x.f1, x.f2))
def G55 (x : S55) : Prop := 0 ≤ x.f0 ∧ x.f0 ≤ 255 ∧ x.f1.length ≤ 9223372036854775807 ∧ -9223372036854775808 ≤ x.f2 ∧ x.f2 ≤ 9223372036854775807
theorem opens55 : Opens Try.prog 55 k55 G55 := by
  refine opens_imp (opens_struct (d := Kd.pair (Kd.int .u8) (Kd.pair (Kd.slice 44 k44) (Kd.int .i64))) (fun x : S55 => (x.f0, x.f1, x.f2)) (fun p => ⟨p.1, p.2.1, p.2.2⟩) (fun _ => rfl) Try.underlying55 (by kernel_rfl) (fields_cons rfl (by kernel_rfl) (opens_int Try.underlying5) (fields_cons rfl (by kernel_rfl) opens42 (fields_last rfl (by kernel_rfl) (opens_int Try.underlying3))))) (fun a hG => ?_)
  obtain ⟨h0, ⟨_, h1, _⟩, h2⟩ := hG
  simp only [Lit.wf, Bool.and_eq_true, decide_eq_true_eq, IntKind.min, IntKind.max, IntKind.signed, IntKind.bits, if_true] at h0 h2
  simp at h0
  exact ⟨by omega, by omega, h1, by omega, by omega⟩
theorem opens53 : Opens Try.prog 53 (Kd.slice 55 k55) (fun l => l.length * 40 ≤ 140737488351232 ∧ l.length ≤ 9223372036854775807 ∧ ∀ a ∈ l, G55 a) :=
  opens_slice Try.underlying53 opens55 (by kernel_rfl) (by kernel_rfl)
end Go.Proofs.Ytcfokcdmkhljoaa.Sp
