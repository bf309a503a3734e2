/- The claim by itself: plain laws and walks. -/
import Derived.Test.YtoeidpenpehlpaaNba
import Derived.Test.YtoeidpenpehlpaaNbb
import Derived.Test.YtoeidpenpehlpaaNbc
import Derived.Test.YtoeidpenpehlpaaNbd
import Derived.SizedLaws
import Derived.Deep.Slices
import Derived.ChangeSame
import Derived.ChangeArms
import Derived.Deep.DeepMust
import Derived.Defers
import Derived.Recover
import Derived.Deep.RegionHeld3
import Derived.IntWalk
import Derived.Lib.SlBytesConst
set_option linter.unusedVariables false
set_option linter.unusedSimpArgs false
section
namespace Go.Proofs.Ytoeidpenpehlpaa.Opn
open Go.RowKit Go.Proofs.YtoeidpenpehlpaaW.PrintWords Go.ChangeShapes

/-- Whatever reads as data of type t is of kind d and meets G. -/
structure Opens {α : Type} (P : Program) (t : TypeId) (d : Kd α) (G : α → Prop) : Prop where
  out : ∀ {H : Type} (enc : TypeId × Value → H) (w : World) (fuel : Nat) (cs : List Value) (x : DataW H × List MemPlace), DataW.trod enc P w 0 (fun _ => true) true fuel t cs = some x → (x.1.weights P t).all (· ≤ reachBytes) = true → ∃ a : α, d.K w a cs ∧ G a

theorem opens_int {P : Program} {t : TypeId} {k : IntKind} (ht : P.underlying t = some (.int k)) : Opens P t (Kd.int k) (fun n => (Lit.int k n).wf = true) := by
  constructor
  intro H enc w fuel cs x h _
  obtain ⟨n, rfl, _, hw⟩ := DataW.trod_int ht h
  exact ⟨n, rfl, hw⟩
theorem opens_bool {P : Program} {t : TypeId} (ht : P.underlying t = some .bool) : Opens P t Kd.bool (fun _ => True) := by
  constructor
  intro H enc w fuel cs x h _
  obtain ⟨n, rfl, _⟩ := DataW.trod_bool ht h
  exact ⟨n, rfl, trivial⟩
theorem opens_string {P : Program} {t : TypeId} (ht : P.underlying t = some .string) : Opens P t Kd.string (fun s => s.size ≤ 140737488351232) := by
  constructor
  intro H enc w fuel cs x h hw
  obtain ⟨s, rfl, rfl, _⟩ := DataW.trod_string ht h
  refine ⟨s, rfl, ?_⟩
  simp only [DataW.weights, List.all_cons, List.all_nil, Bool.and_true, decide_eq_true_eq] at hw
  rw [data_length] at hw
  exact hw
theorem all_mem {H : Type} {P : Program} {e : TypeId} {l : List (DataW H)} {d : DataW H} (hd : d ∈ l) (h : (DataW.weightsAll P e l).all (· ≤ reachBytes) = true) : (d.weights P e).all (· ≤ reachBytes) = true := by
  induction l with
  | nil => cases hd
  | cons y l ih =>
    simp only [DataW.weightsAll, List.all_append, Bool.and_eq_true] at h
    rcases List.mem_cons.1 hd with rfl | hd
    · exact h.1
    · exact ih hd h.2
theorem pick_all {α : Type} {n : Nat} {p : Nat → α → Prop} (h : ∀ i, i < n → ∃ a, p i a) : ∃ l : List α, l.length = n ∧ ∀ i a, l[i]? = some a → p i a := by
  induction n with
  | zero => exact ⟨[], rfl, fun i a h => by simp at h⟩
  | succ n ih =>
    obtain ⟨l, hl, hp⟩ := ih (fun i hi => h i (by omega))
    obtain ⟨a, ha⟩ := h n (by omega)
    refine ⟨l ++ [a], by simp [hl], fun i b hb => ?_⟩
    rcases Nat.lt_or_ge i l.length with hi | hi
    · rw [List.getElem?_append_left hi] at hb
      exact hp i b hb
    · have hi2 : i = n := by
        have := (List.getElem?_eq_some_iff.1 hb).1
        simp at this
        omega
      subst hi2
      rw [← hl] at hb
      simp at hb
      rw [← hb]
      exact ha
/-- A slice: as many elements as its weight allows, each of its kind. -/
theorem opens_slice {α : Type} {P : Program} {t e e' : TypeId} {d : Kd α} {G : α → Prop} {B : Nat} (ht : P.underlying t = some (.slice e)) (he : Opens P e d G) (hs : P.cellsOf e = d.sz) (hB : P.bytesOf e = B) :
    Opens P t (Kd.slice e' d) (fun l => l.length * B ≤ 140737488351232 ∧ l.length ≤ 9223372036854775807 ∧ ∀ a ∈ l, G a) := by
  constructor
  intro H enc w fuel cs x h hw
  rcases Deep.open_slice ht h with ⟨rfl, rfl⟩ | ⟨a, len, cap, m, n, D, Pl, rfl, hb, hl, hm, hmm, rfl, hx⟩
  · exact ⟨[], ⟨none, 0, rfl, Nat.le_refl _, rfl, by simp, fun h => absurd h (Nat.lt_irrefl 0)⟩, by simp, by simp, by simp⟩
  · simp only [DataW.weights, ht, List.all_cons, List.all_append, Bool.and_eq_true, decide_eq_true_eq, List.length_map, List.length_range] at hw
    obtain ⟨hw0, hw1, hw2⟩ := hw
    have hle : len ≤ m := by rw [hmm]; split <;> omega
    have hone : ∀ i, i < len → ∃ y : α, (∃ cs', cs'.length = d.sz ∧ (∀ j u, cs'[j]? = some u → w.cell? (a.add (i * d.sz + j)) = some u) ∧ d.K w y cs') ∧ G y := by
      intro i hi
      obtain ⟨cs', h1, h2⟩ := hx i (by omega)
      obtain ⟨y, hK, hG⟩ := he.out enc w n cs' _ h2 (all_mem (List.mem_map.2 ⟨i, List.mem_range.2 hi, rfl⟩) hw1)
      have hlen := d.K_len hK
      refine ⟨y, ⟨cs', hlen, fun j u hj => ?_, hK⟩, hG⟩
      obtain ⟨_, hl2, hc2⟩ := World.cells?_some h1
      have hj2 : j < P.cellsOf e := by
        have := (List.getElem?_eq_some_iff.1 hj).1
        omega
      have := hc2 j
      rw [← add_add, ← hs]
      simpa [hj] using hc2 j hj2
    obtain ⟨l, hll, hp⟩ := pick_all hone
    have hmx : maxLen = 9223372036854775807 := rfl
    subst hll
    refine ⟨l, ⟨some a, cap, rfl, hl, rfl, by omega, fun _ => ⟨a, rfl, fun j p hj => ?_⟩⟩, ?_, by omega, fun y hy => ?_⟩
    · obtain ⟨⟨cs', h1, h2, h3⟩, _⟩ := hp j p hj
      exact ⟨cs', h1, h3, h2⟩
    · rw [hB] at hw0
      refine Nat.le_trans (Nat.mul_le_mul_right _ ?_) hw0
      omega
    · obtain ⟨j, hj⟩ := List.mem_iff_getElem?.1 hy
      exact (hp j y hj).2
/-- Fields from a cell on: the last one, and one ahead of others. -/
structure Fields {α : Type} (P : Program) (o : Nat) (fs : List Field) (d : Kd α) (G : α → Prop) : Prop where
  out : ∀ {H : Type} (enc : TypeId × Value → H) (w : World) (fuel : Nat) (cs : List Value) (xs : List (DataW H × List MemPlace)), cs.length = o + d.sz →
    (∀ (i : Nat) (f : Field), fs[i]? = some f → DataW.trod enc P w 0 (fun _ => true) true fuel f.type ((cs.drop f.offset).take (P.cellsOf f.type)) = xs[i]?) → xs.length = fs.length →
    (DataW.weightsEach P (fs.map (·.type)) (xs.map (·.1))).all (· ≤ reachBytes) = true → ∃ a : α, d.K w a (cs.drop o) ∧ G a
theorem fields_last {α : Type} {P : Program} {o : Nat} {f : Field} {d : Kd α} {G : α → Prop} (ho : f.offset = o) (hs : P.cellsOf f.type = d.sz) (hf : Opens P f.type d G) : Fields P o [f] d G := by
  constructor
  intro H enc w fuel cs xs hl h hx hw
  match xs, hx with
  | [x0], _ =>
    have h0 := h 0 f rfl
    simp only [DataW.weightsEach, List.map_cons, List.map_nil, List.append_nil] at hw
    rw [ho, hs, List.take_of_length_le (by simp; omega)] at h0
    exact hf.out enc w fuel _ x0 h0 hw
theorem fields_cons {α β : Type} {P : Program} {o : Nat} {f : Field} {fs : List Field} {d : Kd α} {d2 : Kd β} {G : α → Prop} {G2 : β → Prop} (ho : f.offset = o) (hs : P.cellsOf f.type = d.sz) (hf : Opens P f.type d G) (hr : Fields P (o + d.sz) fs d2 G2) :
    Fields P o (f :: fs) (Kd.pair d d2) (fun p => G p.1 ∧ G2 p.2) := by
  constructor
  intro H enc w fuel cs xs hl h hx hw
  match xs, hx with
  | x0 :: xs, hx =>
    have h0 := h 0 f rfl
    simp only [DataW.weightsEach, List.map_cons, List.all_append, Bool.and_eq_true] at hw
    rw [ho, hs] at h0
    have hsz : (Kd.pair d d2).sz = d.sz + d2.sz := rfl
    obtain ⟨a, hK, hG⟩ := hf.out enc w fuel _ x0 h0 hw.1
    obtain ⟨b, hK2, hG2⟩ := hr.out enc w fuel cs xs (by omega) (fun i g hg => by simpa using h (i + 1) g (by simpa using hg)) (by simpa using hx) hw.2
    refine ⟨(a, b), ⟨_, _, ?_, hK, hK2⟩, hG, hG2⟩
    rw [← List.drop_drop]
    exact (List.take_append_drop _ _).symm
/-- A struct: its fields' kinds, told as a type of one's own. -/
theorem opens_struct {α β : Type} {P : Program} {t : TypeId} {fs : Array Field} {d : Kd α} {G : α → Prop} (f : β → α) (g : α → β) (hfg : ∀ a, f (g a) = a) (ht : P.underlying t = some (.struct fs)) (hs : P.cellsOf t = d.sz) (hf : Fields P 0 fs.toList d G) :
    Opens P t (Kd.iso d f) (fun b => G (f b)) := by
  constructor
  intro H enc w fuel cs x h hw
  obtain ⟨xs, n, _, rfl, hl, hlen, hx⟩ := DataW.trod_struct ht h
  simp only [DataW.weights, ht] at hw
  obtain ⟨a, hK, hG⟩ := hf.out enc w n cs xs (by rw [hl, hs, Nat.zero_add]) (fun i f hi => hx i f (by simpa using hi)) (by simpa using hlen) hw
  refine ⟨g a, ?_, by show G (f (g a)); rw [hfg]; exact hG⟩
  show d.K w (f (g a)) cs
  rw [hfg]
  exact hK
theorem opens_imp {α : Type} {P : Program} {t : TypeId} {d : Kd α} {G G' : α → Prop} (h : Opens P t d G) (hG : ∀ a, G a → G' a) : Opens P t d G' := by
  constructor
  intro H enc w fuel cs x hx hw
  obtain ⟨a, hK, hg⟩ := h.out enc w fuel cs x hx hw
  exact ⟨a, hK, hG a hg⟩
/-- An argument of a slice's type. -/
theorem arg_slice {H : Type} {enc : TypeId × Value → H} {α : Type} {P : Program} {t e' : TypeId} {d : Kd α} {G : List α → Prop} {w : World} {A : Option Addr} {n c : Nat} {x : DataW H} {ps : List MemPlace} (ho : Opens P t (Kd.slice e' d) G)
    (h : DataW.Trod enc P w 0 (fun _ => true) true t (.slice A n c) x ps) (hw : (x.weights P t).all (· ≤ reachBytes) = true) : ∃ l : List α, n = l.length ∧ n ≤ c ∧ d.C w A l.length l ∧ G l := by
  obtain ⟨fuel, hf⟩ := h
  obtain ⟨l, ⟨A2, c2, hcs, hl, hC⟩, hG⟩ := ho.out enc w fuel _ _ hf hw
  have e : (Value.slice A n c) = .slice A2 l.length c2 := by simpa [Value.cells] using hcs
  injection e with e1 e2 e3
  subst e1 e2 e3
  exact ⟨l, rfl, hl, hC, hG⟩
/-- The weights of one argument. -/
theorem weights_one {H : Type} {P : Program} {ts : List TypeId} {ds : List (DataW H)} (h : (DataW.weightsEach P ts ds).all (· ≤ reachBytes) = true) {j : Nat} {t : TypeId} {d : DataW H} (ht : ts[j]? = some t) (hd : ds[j]? = some d) : (d.weights P t).all (· ≤ reachBytes) = true :=
  List.all_eq_true.2 fun n hn => List.all_eq_true.1 h n (DataW.weights_mem_each ht hd n hn)
end Go.Proofs.Ytoeidpenpehlpaa.Opn
end
section
namespace Go.Proofs.Ytoeidpenpehlpaa.PB
open Go.RowKit Go.Proofs.YtoeidpenpehlpaaW.PrintWords Go.Proofs.YtoeidpenpehlpaaW.PrintLast Go.Proofs.YtoeidpenpehlpaaW.PrintMore
def isB (b : List Int) : Prop := ∀ x ∈ b, 0 ≤ x ∧ x < 256
theorem wraps_u64 (n : Int) (h0 : 0 ≤ n) (h1 : n < 2 ^ 64) : IntKind.u64.wrap n = n := by
  have : IntKind.u64.wrap n = n % 18446744073709551616 := by simp [IntKind.wrap, IntKind.bits, IntKind.signed]
  rw [this]; omega
theorem wrap64_small (n : Int) (h0 : -9223372036854775808 ≤ n) (h1 : n < 9223372036854775808) : wrap64 n = n := by unfold wrap64; omega
/-- A number's bytes: seven bits a byte, the lowest first. -/
def numB (n : Nat) : List Int := if n < 128 then [(n : Int)] else ((n % 128 + 128 : Nat) : Int) :: numB (n / 128)
termination_by n
decreasing_by omega
theorem numB_lt {n : Nat} (h : n < 128) : numB n = [(n : Int)] := by rw [numB, if_pos h]
theorem numB_ge {n : Nat} (h : ¬ n < 128) : numB n = ((n % 128 + 128 : Nat) : Int) :: numB (n / 128) := by rw [numB, if_neg h]
theorem numB_isB (n : Nat) : isB (numB n) := by
  induction n using Nat.strongRecOn with
  | _ n ih =>
    by_cases h : n < 128
    · rw [numB_lt h]; intro x hx; simp only [List.mem_singleton] at hx; omega
    · rw [numB_ge h]; intro x hx
      rcases List.mem_cons.1 hx with rfl | hx
      · omega
      · exact ih _ (by omega) x hx
theorem numB_pos (n : Nat) : 0 < (numB n).length := by
  by_cases h : n < 128
  · rw [numB_lt h]; simp
  · rw [numB_ge h]; simp
theorem numB_len (n : Nat) : n < 128 ^ (numB n).length := by
  induction n using Nat.strongRecOn with
  | _ n ih =>
    by_cases h : n < 128
    · rw [numB_lt h]; simpa using h
    · rw [numB_ge h, List.length_cons, Nat.pow_succ]
      have := ih (n / 128) (by omega)
      omega
theorem numB_le (j : Nat) : ∀ n : Nat, n < 128 ^ (j + 1) → (numB n).length ≤ j + 1 := by
  induction j with
  | zero => intro n h; rw [numB_lt (by simpa using h)]; simp
  | succ j ih =>
    intro n h
    by_cases h1 : n < 128
    · rw [numB_lt h1]; simp
    · rw [numB_ge h1, List.length_cons]
      have := ih (n / 128) (by rw [Nat.pow_succ] at h; omega)
      omega
theorem numB_ten {n : Nat} (h : n < 2 ^ 64) : (numB n).length ≤ 10 := numB_le 9 n (by omega)
theorem numB_digit (j : Nat) : ∀ n : Nat, j < (numB n).length → ((numB n).getD j 0).toNat % 128 = n / 128 ^ j % 128 := by
  induction j with
  | zero =>
    intro n _
    by_cases h : n < 128
    · rw [numB_lt h]; simp
    · rw [numB_ge h]
      simp only [List.getD_cons_zero, Nat.pow_zero, Nat.div_one]
      omega
  | succ j ih =>
    intro n hj
    by_cases h : n < 128
    · rw [numB_lt h] at hj; simp at hj
    · rw [numB_ge h] at hj ⊢
      rw [List.length_cons] at hj
      rw [List.getD_cons_succ, ih _ (by omega), Nat.pow_succ, Nat.mul_comm, Nat.div_div_eq_div_mul]
theorem numB_more (j : Nat) : ∀ n : Nat, j + 1 < (numB n).length → 128 ≤ (numB n).getD j 0 := by
  induction j with
  | zero =>
    intro n hj
    by_cases h : n < 128
    · rw [numB_lt h] at hj; simp at hj
    · rw [numB_ge h, List.getD_cons_zero]; omega
  | succ j ih =>
    intro n hj
    by_cases h : n < 128
    · rw [numB_lt h] at hj; simp at hj
    · rw [numB_ge h] at hj ⊢
      rw [List.length_cons] at hj
      rw [List.getD_cons_succ]
      exact ih _ (by omega)
theorem numB_last (j : Nat) : ∀ n : Nat, j + 1 = (numB n).length → (numB n).getD j 0 < 128 := by
  induction j with
  | zero =>
    intro n hj
    by_cases h : n < 128
    · rw [numB_lt h, List.getD_cons_zero]; omega
    · rw [numB_ge h] at hj
      have := numB_pos (n / 128)
      rw [List.length_cons] at hj; omega
  | succ j ih =>
    intro n hj
    by_cases h : n < 128
    · rw [numB_lt h] at hj; simp at hj
    · rw [numB_ge h] at hj ⊢
      rw [List.length_cons] at hj
      rw [List.getD_cons_succ]
      exact ih _ (by omega)
/-! ### The writers -/
theorem low7 (n : Nat) (h : n < 2 ^ 64) : Go.bits .and .u64 (n : Int) 127 = ((n % 128 : Nat) : Int) := by
  have := bits_mask .u64 64 (by decide) wraps_u64 7 (by decide) (n : Int) (by omega) (by omega)
  rw [show ((127 : Int)) = 2 ^ 7 - 1 from rfl, this]
  omega
theorem or128 (a : Nat) (h : a < 128) : Go.bits .or .u8 (a : Int) 128 = ((a + 128 : Nat) : Int) := by
  rw [show ((128 : Int)) = ((128 : Nat) : Int) from rfl, (bits_nat .u8 8 (by decide) wraps_u8 a 128 (by omega) (by omega)).2]
  have := Nat.two_pow_add_eq_or_of_lt (i := 7) (b := a) h 1
  rw [Nat.or_comm, show (128 : Nat) = 2 ^ 7 * 1 from rfl, ← this]
  omega
theorem Ev_num (n : Nat) : ∀ acc : List Int, n < 2 ^ 64 → acc.length + (numB n).length ≤ 140737488355328 → Ev (fun k => code_Num.l0 k (n : Int) acc) (acc ++ numB n) := by
  induction n using Nat.strongRecOn with
  | _ n ih =>
    intro acc hn hl
    by_cases h : n < 128
    · rw [numB_lt h] at hl ⊢
      refine Ev.step (f := fun _ => some (acc ++ [(n : Int)])) (fun k => ?_) (Ev.now _)
      have h1 : ¬ ((n : Int) ≥ 128) := by omega
      have h2 : acc.length < 140737488355328 := by simp at hl; omega
      simp only [code_Num.l0, if_neg h1, if_pos h2]
      rw [show (n : Int) % 256 = n by omega]
    · rw [numB_ge h] at hl ⊢
      rw [List.length_cons] at hl
      have h1 : ((n : Int) ≥ 128) := by omega
      have h2 : acc.length < 140737488355328 := by omega
      have e : Go.bits .or .u8 ((Go.bits .and .u64 (n : Int) 127) % 256) 128 = ((n % 128 + 128 : Nat) : Int) := by
        rw [low7 n hn, show (((n % 128 : Nat) : Int)) % 256 = ((n % 128 : Nat) : Int) by omega, or128 _ (by omega)]
      refine Ev.step (f := fun k => code_Num.l0 k ((n / 128 : Nat) : Int) (acc ++ [((n % 128 + 128 : Nat) : Int)])) (fun k => ?_) ?_
      · rw [code_Num.l0, if_pos h1, if_pos h2, e]; rfl
      · have := ih (n / 128) (by omega) (acc ++ [((n % 128 + 128 : Nat) : Int)]) (by omega) (by simp; omega)
        simpa using this
theorem num_ev (n : Nat) (h : n < 2 ^ 64) : Ev (fun k => code_Num.f k (n : Int)) (numB n) := by
  have := Ev_num n [] h (by have := numB_ten h; simp; omega)
  simpa [code_Num.f] using this
/-! ### The program's reader -/
def tkN : Nat → Nat → List Int → Option (Nat × List Int)
  | _, _, [] => none
  | i, n, c :: t => if (i = 9 ∧ 1 < c) ∨ 9 < i then none else if c < 128 then (if c = 0 ∧ 0 < i then none else some (n + (c.toNat % 128) * 2 ^ (7 * i), t)) else tkN (i + 1) (n + (c.toNat % 128) * 2 ^ (7 * i)) t
def toR : Option (Nat × List Int) → Int × List Int × Bool
  | some (v, r) => ((v : Int), r, true)
  | none => (0, [], false)
theorem joined (n c i : Nat) (hc : c < 256) (hi : i ≤ 9) (h9 : i = 9 → c ≤ 1) (hn : n < 2 ^ (7 * i)) :
    Go.bits .or .u64 (n : Int) (shl .u64 (IntKind.u64.wrap (Go.bits .and .u8 (c : Int) 127)) (IntKind.u64.wrap (7 * (IntKind.u64.wrap (i : Int))))) = ((n + (c % 128) * 2 ^ (7 * i) : Nat) : Int) := by
  have e1 : Go.bits .and .u8 (c : Int) 127 = ((c % 128 : Nat) : Int) := by
    have := bits_mask .u8 8 (by decide) wraps_u8 7 (by decide) (c : Int) (by omega) (by omega)
    rw [show ((127 : Int)) = 2 ^ 7 - 1 from rfl, this]; omega
  have e2 : IntKind.u64.wrap (7 * (IntKind.u64.wrap (i : Int))) = ((7 * i : Nat) : Int) := by
    rw [wraps_u64 (i : Int) (by omega) (by omega), wraps_u64 _ (by omega) (by omega)]; omega
  have hb : (c % 128) * 2 ^ (7 * i) < 2 ^ 64 := by
    by_cases h : i = 9
    · subst h
      have := h9 rfl
      have : c % 128 ≤ 1 := by omega
      calc (c % 128) * 2 ^ (7 * 9) ≤ 1 * 2 ^ (7 * 9) := Nat.mul_le_mul_right _ this
        _ < 2 ^ 64 := by decide
    · calc (c % 128) * 2 ^ (7 * i) < 128 * 2 ^ (7 * i) := Nat.mul_lt_mul_of_pos_right (by omega) (Nat.two_pow_pos _)
        _ ≤ 128 * 2 ^ 56 := Nat.mul_le_mul_left _ (Nat.pow_le_pow_right (by decide) (by omega))
        _ ≤ 2 ^ 64 := by decide
  have e3 : shl .u64 (IntKind.u64.wrap (((c % 128 : Nat) : Int))) ((7 * i : Nat) : Int) = (((c % 128) * 2 ^ (7 * i) : Nat) : Int) := by
    unfold shl
    rw [wraps_u64 (((c % 128 : Nat) : Int)) (by omega) (by omega), Int.toNat_natCast, Nat.min_eq_left (show 7 * i ≤ IntKind.u64.bits by show 7 * i ≤ 64; omega)]
    have : (((c % 128 : Nat) : Int)) * 2 ^ (7 * i) = (((c % 128) * 2 ^ (7 * i) : Nat) : Int) := by
      rw [Int.natCast_mul, Int.natCast_pow]; rfl
    rw [this]
    exact wraps_u64 _ (by omega) (by exact_mod_cast hb)
  rw [e1, e2, e3]
  have hn64 : n < 2 ^ 64 := Nat.lt_of_lt_of_le hn (Nat.pow_le_pow_right (by decide) (by omega))
  rw [(bits_nat .u64 64 (by decide) wraps_u64 n _ hn64 hb).2]
  have := Nat.two_pow_add_eq_or_of_lt hn (c % 128)
  rw [Nat.or_comm, Nat.mul_comm, ← this]
  congr 1
  omega
theorem behind_ok (b : List Int) (i : Nat) (hi : i ≤ b.length) (hl : b.length < 140737488355328) : code_behind.f b (i : Int) = some (b.drop i) := by
  unfold code_behind.f
  have h1 : (0 : Int) ≤ (i : Int) := by omega
  have h2 : (i : Int) ≤ (b.length : Int) := by omega
  have h3 : ([] : List Int).length + (b.drop (i : Int).toNat).length < 140737488355328 := by rw [List.length_drop]; simp; omega
  rw [Int.toNat_natCast] at h3
  simp only [Option.bind_some, if_pos h1, if_pos h2, Int.toNat_natCast, if_pos h3, List.nil_append]
theorem rd_at (b : List Int) (i : Nat) (h : i < b.length) : rd b (i : Int) = b[i] := by
  unfold rd
  rw [Int.toNat_natCast, List.getD_eq_getElem?_getD, List.getElem?_eq_getElem h]; rfl
theorem Ev_tk (b : List Int) (hb : isB b) (hl : b.length < 140737488355328) : ∀ (m i n : Nat), b.length - i = m → i ≤ b.length → n < 2 ^ (7 * i) →
    Ev (fun k => code_TakeNum.l0 k b (n : Int) b (b.length : Int) (i : Int)) (toR (tkN i n (b.drop i))) := by
  intro m
  induction m with
  | zero =>
    intro i n hm hi hn
    have : i = b.length := by omega
    subst this
    rw [List.drop_length]
    refine Ev.step (f := fun _ => some (0, [], false)) (fun k => ?_) (Ev.now _)
    rw [code_TakeNum.l0, if_neg (by omega)]
  | succ m ih =>
    intro i n hm hi hn
    have hlt : i < b.length := by omega
    have hd : b.drop i = b[i] :: b.drop (i + 1) := List.drop_eq_getElem_cons hlt
    have hc := hb b[i] (List.getElem_mem hlt)
    have hrd := rd_at b i hlt
    rw [hd]
    generalize hcc : b[i] = c at hc hrd
    obtain ⟨u, rfl⟩ := Int.eq_ofNat_of_zero_le hc.1
    have hu : u < 256 := by omega
    by_cases hf : (i = 9 ∧ 1 < (u : Int)) ∨ 9 < i
    · have e : toR (tkN i n ((u : Int) :: b.drop (i + 1))) = (0, [], false) := by rw [tkN, if_pos hf]; rfl
      rw [e]
      refine Ev.step (f := fun k => code_TakeNum.j1 k b (n : Int) (i : Int) (u : Int) b (b.length : Int) (i : Int) true) (fun k => ?_) (Ev.step (f := fun _ => some (0, [], false)) (fun k => ?_) (Ev.now _))
      · rw [code_TakeNum.l0, if_pos (by omega), if_pos (by omega), if_pos (by omega), hrd]
        rcases hf with ⟨h9, h1⟩ | h9
        · rw [if_pos (by omega), if_pos (by omega)]
        · rw [if_neg (by omega), decide_eq_true (by omega)]
      · rw [code_TakeNum.j1, if_pos rfl]
    · have hi9 : i ≤ 9 := by omega
      have hj := Aside0.mk (joined n u i hu hi9 (by omega) hn)
      have hbe := behind_ok b (i + 1) (by omega) hl
      have hw1 : wrap64 ((i : Int) + 1) = ((i + 1 : Nat) : Int) := by rw [wrap64_small _ (by omega) (by omega)]; omega
      have hw2 : 0 ≤ IntKind.u64.wrap (7 * (IntKind.u64.wrap (i : Int))) := by
        rw [wraps_u64 (i : Int) (by omega) (by omega), wraps_u64 _ (by omega) (by omega)]; omega
      refine Ev.step (f := fun k => code_TakeNum.j1 k b (n : Int) (i : Int) (u : Int) b (b.length : Int) (i : Int) false) (fun k => ?_) ?_
      · rw [code_TakeNum.l0, if_pos (by omega), if_pos (by omega), if_pos (by omega), hrd]
        by_cases h9 : i = 9
        · rw [if_pos (by omega), if_neg (by omega), decide_eq_false (by omega)]
        · rw [if_neg (by omega), decide_eq_false (by omega)]
      by_cases h128 : u < 128
      · by_cases h0 : (u : Int) = 0 ∧ 0 < i
        · have e : toR (tkN i n ((u : Int) :: b.drop (i + 1))) = (0, [], false) := by rw [tkN, if_neg hf, if_pos (by omega), if_pos h0]; rfl
          rw [e]
          refine Ev.step (f := fun _ => some (0, [], false)) (fun k => ?_) (Ev.now _)
          rw [code_TakeNum.j1, if_neg (by decide), if_pos hw2, if_pos (by omega), if_pos h0.1, if_pos (by omega)]
        · have e : toR (tkN i n ((u : Int) :: b.drop (i + 1))) = (((n + (u % 128) * 2 ^ (7 * i) : Nat) : Int), b.drop (i + 1), true) := by
            rw [tkN, if_neg hf, if_pos (by omega), if_neg h0, Int.toNat_natCast]; rfl
          rw [e]
          refine Ev.step (f := fun _ => some (((n + (u % 128) * 2 ^ (7 * i) : Nat) : Int), b.drop (i + 1), true)) (fun k => ?_) (Ev.now _)
          rw [code_TakeNum.j1, if_neg (by decide), if_pos hw2, if_pos (by omega), hw1, hbe, hj.out]
          simp only [Option.bind_some]
          by_cases hz : (u : Int) = 0
          · rw [if_pos hz, if_neg (by omega)]
          · rw [if_neg hz]
      · have e : tkN i n ((u : Int) :: b.drop (i + 1)) = tkN (i + 1) (n + (u % 128) * 2 ^ (7 * i)) (b.drop (i + 1)) := by
          rw [tkN, if_neg hf, if_neg (by omega), Int.toNat_natCast]
        rw [e]
        refine Ev.step (f := fun k => code_TakeNum.l0 k b ((n + (u % 128) * 2 ^ (7 * i) : Nat) : Int) b (b.length : Int) ((i + 1 : Nat) : Int)) (fun k => ?_) ?_
        · rw [code_TakeNum.j1, if_neg (by decide), if_pos hw2, if_neg (by omega), hw1, hj.out]
        · refine ih (i + 1) _ (by omega) (by omega) ?_
          have : 2 ^ (7 * (i + 1)) = 128 * 2 ^ (7 * i) := by rw [Nat.mul_add, Nat.pow_add, Nat.mul_comm]
          rw [this]
          have h2 : (u % 128) * 2 ^ (7 * i) ≤ 127 * 2 ^ (7 * i) := Nat.mul_le_mul_right _ (by omega)
          omega
def rdN (b : List Int) : Option (Nat × List Int) := tkN 0 0 b
theorem take_ev (b : List Int) (hb : isB b) (hl : b.length < 140737488355328) : Ev (fun k => code_TakeNum.f k b) (toR (rdN b)) := by
  have := Ev_tk b hb hl b.length 0 0 (by omega) (by omega) (by simp)
  simpa [code_TakeNum.f, rdN] using this
theorem split128 (m P : Nat) : m * P = (m % 128) * P + (m / 128) * (128 * P) := by
  have h := Nat.div_add_mod m 128
  have h2 : m * P = (128 * (m / 128) + m % 128) * P := by rw [h]
  rw [h2, Nat.add_mul, Nat.add_comm, Nat.mul_comm 128, Nat.mul_assoc]
theorem tk_num (rest : List Int) : ∀ (m i n : Nat), (0 < i → 0 < m) → n + m * 2 ^ (7 * i) < 2 ^ 64 → tkN i n (numB m ++ rest) = some (n + m * 2 ^ (7 * i), rest) := by
  intro m
  induction m using Nat.strongRecOn with
  | _ m ih =>
    intro i n hi hs
    have hi9 : i ≤ 9 := by
      rcases Nat.lt_or_ge 9 i with h | h
      · have h1 := Nat.pow_le_pow_right (n := 2) (by decide) (show 70 ≤ 7 * i by omega)
        have h2 : 1 * 2 ^ (7 * i) ≤ m * 2 ^ (7 * i) := Nat.mul_le_mul_right _ (hi (by omega))
        have h3 : (2 : Nat) ^ 70 > 2 ^ 64 := by decide
        omega
      · exact h
    have h9 : i = 9 → m ≤ 1 := by
      rintro rfl
      rcases Nat.lt_or_ge 1 m with h | h
      · have h2 : 2 * 2 ^ (7 * 9) ≤ m * 2 ^ (7 * 9) := Nat.mul_le_mul_right _ h
        have h3 : 2 * (2 : Nat) ^ (7 * 9) = 2 ^ 64 := by decide
        omega
      · exact h
    by_cases h : m < 128
    · rw [numB_lt h, List.cons_append, List.nil_append, tkN, if_neg (by omega), if_pos (by omega), if_neg (by omega), Int.toNat_natCast, Nat.mod_eq_of_lt h]
    · have hm := split128 m (2 ^ (7 * i))
      have hp : 2 ^ (7 * (i + 1)) = 128 * 2 ^ (7 * i) := by rw [Nat.mul_add, Nat.pow_add, Nat.mul_comm]
      rw [numB_ge h, List.cons_append, tkN, if_neg (by omega), if_neg (by omega), Int.toNat_natCast, show (m % 128 + 128) % 128 = m % 128 by omega]
      rw [ih (m / 128) (by omega) (i + 1) _ (by omega) (by rw [hp]; omega), hp]
      congr 2
      omega
theorem rd_num (v : Nat) (h : v < 2 ^ 64) (rest : List Int) : rdN (numB v ++ rest) = some (v, rest) := by
  have := tk_num rest v 0 0 (by omega) (by simpa using h)
  simpa [rdN] using this
/-- What is read ends the bytes. -/
theorem tk_tail : ∀ (b : List Int) (i n v : Nat) (r : List Int), tkN i n b = some (v, r) → ∃ p, b = p ++ r ∧ p ≠ [] := by
  intro b
  induction b with
  | nil => intro i n v r h; simp [tkN] at h
  | cons c t ih =>
    intro i n v r h
    rw [tkN] at h
    split at h
    · cases h
    · split at h
      · split at h
        · cases h
        · simp only [Option.some.injEq, Prod.mk.injEq] at h
          exact ⟨[c], by rw [← h.2]; rfl, by simp⟩
      · obtain ⟨p, rfl, _⟩ := ih _ _ _ _ h
        exact ⟨c :: p, rfl, by simp⟩
end Go.Proofs.Ytoeidpenpehlpaa.PB
end
section
set_option linter.unusedVariables false
set_option linter.unusedSimpArgs false
namespace Go.Proofs.Ytoeidpenpehlpaa.PB
open Go.RowKit Go.Proofs.YtoeidpenpehlpaaW.PrintWords Go.Proofs.YtoeidpenpehlpaaW.PrintLast Go.Proofs.YtoeidpenpehlpaaW.PrintMore
def leadN (b : List Int) : Nat → Nat → Nat
  | 0, i => i
  | m + 1, i => if i < b.length ∧ 128 ≤ b.getD i 0 then leadN b m (i + 1) else i
def hz (b : List Int) : Nat → Nat → Option Nat
  | 0, v => some v
  | j + 1, v => if 144115188075855871 < v then none else hz b j (v * 128 + (b.getD j 0).toNat % 128)
def rdRN (b : List Int) : Option (Nat × List Int) :=
  if leadN b 10 0 = b.length ∨ leadN b 10 0 = 10 then none else
    match hz b (leadN b 10 0 + 1) 0 with
    | none => none
    | some u => if (numB u).length = leadN b 10 0 + 1 then some (u, b.drop (leadN b 10 0 + 1)) else none
theorem getD_app (a r : List Int) (j : Nat) (h : j < a.length) : (a ++ r).getD j 0 = a.getD j 0 := by
  rw [List.getD_eq_getElem?_getD, List.getD_eq_getElem?_getD, List.getElem?_append_left h]
theorem hz_num (v : Nat) (hv : v < 2 ^ 64) (rest : List Int) : ∀ j, j ≤ (numB v).length → hz (numB v ++ rest) j (v / 128 ^ j) = some v := by
  intro j
  induction j with
  | zero => intro _; simp [hz]
  | succ j ih =>
    intro hj
    have h1 : v / 128 ^ (j + 1) = v / 128 ^ j / 128 := by rw [Nat.pow_succ, Nat.div_div_eq_div_mul]
    have h2 : v / 128 ^ j ≤ v := Nat.div_le_self _ _
    rw [hz, if_neg (by rw [h1]; omega), getD_app _ _ _ (by omega), numB_digit j v (by omega)]
    have h3 : v / 128 ^ (j + 1) * 128 + v / 128 ^ j % 128 = v / 128 ^ j := by rw [h1]; omega
    rw [h3]
    exact ih (by omega)
theorem lead_num (v : Nat) (rest : List Int) : ∀ m i, i < (numB v).length → (numB v).length ≤ i + m → leadN (numB v ++ rest) m i = (numB v).length - 1 := by
  intro m
  induction m with
  | zero => intro i h1 h2; omega
  | succ m ih =>
    intro i h1 h2
    rw [leadN]
    have hD := getD_app (numB v) rest i h1
    by_cases h : i + 1 < (numB v).length
    · have := numB_more i v h
      rw [if_pos ⟨by simp; omega, by rw [hD]; exact this⟩]
      exact ih (i + 1) h (by omega)
    · have := numB_last i v (by omega)
      rw [if_neg (by rw [hD]; omega)]
      omega
theorem rdR_num (v : Nat) (h : v < 2 ^ 64) (rest : List Int) : rdRN (numB v ++ rest) = some (v, rest) := by
  have hp := numB_pos v
  have ht := numB_ten h
  have hL := lead_num v rest 10 0 hp (by omega)
  unfold rdRN
  rw [hL, if_neg (by simp; omega), show (numB v).length - 1 + 1 = (numB v).length by omega]
  have hz0 := hz_num v h rest (numB v).length (Nat.le_refl _)
  rw [Nat.div_eq_of_lt (numB_len v)] at hz0
  rw [hz0]
  simp only [if_true]
  rw [List.drop_left]
end Go.Proofs.Ytoeidpenpehlpaa.PB
end
section
set_option linter.unusedVariables false
set_option linter.unusedSimpArgs false
namespace Go.Proofs.Ytoeidpenpehlpaa.PB
open Go.RowKit Go.Proofs.YtoeidpenpehlpaaW.PrintWords Go.Proofs.YtoeidpenpehlpaaW.PrintLast Go.Proofs.YtoeidpenpehlpaaW.PrintMore
theorem bytesOf_isB (s : ByteArray) : isB (bytesOf s) := by
  intro x hx
  obtain ⟨b, _, rfl⟩ := List.mem_map.1 hx
  have := b.toNat_lt
  omega
theorem isB_app {a b : List Int} (ha : isB a) (hb : isB b) : isB (a ++ b) := fun x hx => (List.mem_append.1 hx).elim (ha x) (hb x)
theorem isB_right {a b : List Int} (h : isB (a ++ b)) : isB b := fun x hx => h x (List.mem_append_right _ hx)
theorem isB_take {b : List Int} (n : Nat) (h : isB b) : isB (b.take n) := fun x hx => h x (List.mem_of_mem_take hx)
theorem isB_drop {b : List Int} (n : Nat) (h : isB b) : isB (b.drop n) := fun x hx => h x (List.mem_of_mem_drop hx)
theorem ofNat_toNat (n : Nat) (h : n < 256) : (UInt8.ofNat n).toNat = n := by simp [Nat.mod_eq_of_lt h]
theorem str_bytes (s : ByteArray) : strOfNums (bytesOf s) = s := by
  apply ByteArray.ext
  unfold strOfNums bytesOf
  simp only [List.map_map]
  have : (fun n : Int => UInt8.ofNat n.toNat) ∘ (fun b : UInt8 => (b.toNat : Int)) = id := by
    funext b; simp
  rw [this, List.map_id]
theorem bytes_str (l : List Int) (h : isB l) : bytesOf (strOfNums l) = l := by
  unfold strOfNums bytesOf
  simp only [List.map_map]
  conv => rhs; rw [← List.map_id l]
  refine List.map_congr_left fun x hx => ?_
  have := h x hx
  simp only [Function.comp, id]
  rw [ofNat_toNat _ (by omega)]
  omega
/-- A text's bytes. -/
def textB (s : ByteArray) : List Int := numB s.size ++ bytesOf s
theorem textB_isB (s : ByteArray) : isB (textB s) := isB_app (numB_isB _) (bytesOf_isB s)
theorem textB_len (s : ByteArray) (h : s.size < 2 ^ 64) : (textB s).length ≤ 10 + s.size := by
  have := numB_ten h
  simp only [textB, List.length_append, bytesOf_length]; omega
theorem text_ev (s : ByteArray) (h : s.size < 70368744177664) : Ev (fun k => code_Text.f k s) (textB s) := by
  refine Ev.bind (a := numB s.size) ?_ ?_
  · rw [wraps_u64 _ (by omega) (by omega)]
    exact num_ev s.size (by omega)
  · have := numB_ten (n := s.size) (by omega)
    refine Ev.congr (f := fun _ => some (textB s)) (fun k => ?_) (Ev.now _)
    rw [if_pos (by omega)]; rfl
/-! ### Readers of texts -/
def rdT (o : Option (Nat × List Int)) (most : Nat) : Option (ByteArray × List Int) :=
  match o with
  | none => none
  | some (n, r) => if most < n ∨ r.length < n then none else some (strOfNums (r.take n), r.drop n)
def toT : Option (ByteArray × List Int) → ByteArray × List Int × Bool
  | some (s, r) => (s, r, true)
  | none => (⟨#[]⟩, [], false)
theorem tk_lt : ∀ (b : List Int) (i n v : Nat) (r : List Int), isB b → n < 2 ^ (7 * i) → tkN i n b = some (v, r) → v < 2 ^ 64 := by
  intro b
  induction b with
  | nil => intro i n v r _ _ h; simp [tkN] at h
  | cons c t ih =>
    intro i n v r hb hn h
    have hc := hb c (List.mem_cons_self)
    obtain ⟨u, rfl⟩ := Int.eq_ofNat_of_zero_le hc.1
    rw [tkN, Int.toNat_natCast] at h
    have hp : 2 ^ (7 * (i + 1)) = 128 * 2 ^ (7 * i) := by rw [Nat.mul_add, Nat.pow_add, Nat.mul_comm]
    have h2 : (u % 128) * 2 ^ (7 * i) ≤ 127 * 2 ^ (7 * i) := Nat.mul_le_mul_right _ (by omega)
    split at h
    · cases h
    · rename_i hf
      split at h
      · split at h
        · cases h
        · simp only [Option.some.injEq, Prod.mk.injEq] at h
          rw [← h.1]
          by_cases h9 : i = 9
          · subst h9
            have h3 : (u % 128) * 2 ^ (7 * 9) ≤ 1 * 2 ^ (7 * 9) := Nat.mul_le_mul_right _ (by omega)
            have h4 : (2 : Nat) ^ (7 * 9) + 2 ^ (7 * 9) = 2 ^ 64 := by decide
            omega
          · have h3 : (2 : Nat) ^ (7 * (i + 1)) ≤ 2 ^ 63 := Nat.pow_le_pow_right (by decide) (by omega)
            have h4 : (2 : Nat) ^ 63 < 2 ^ 64 := by decide
            omega
      · exact ih (i + 1) _ v r (fun x hx => hb x (List.mem_cons_of_mem _ hx)) (by rw [hp]; omega) h
theorem rd_lt (b : List Int) (hb : isB b) (v : Nat) (r : List Int) (h : rdN b = some (v, r)) : v < 2 ^ 64 := tk_lt b 0 0 v r hb (by simp) h
theorem takeT_ev (b : List Int) (hb : isB b) (hl : b.length < 140737488355328) (most : Nat) (hm : most < 2 ^ 62) : Ev (fun k => code_TakeText.f k b (most : Int)) (toT (rdT (rdN b) most)) := by
  have hlt := rd_lt b hb
  have htl : ∀ v r, rdN b = some (v, r) → r.length ≤ b.length := fun v r h => by
    obtain ⟨p, he, _⟩ := tk_tail b 0 0 v r h
    rw [he, List.length_append]; omega
  have hN := take_ev b hb hl
  generalize rdN b = o at hlt htl hN
  cases o with
  | none => exact Ev.bind hN (Ev.congr (f := fun _ => some (⟨#[]⟩, [], false)) (fun k => rfl) (Ev.now _))
  | some p =>
    obtain ⟨v, r⟩ := p
    refine Ev.bind (a := ((v : Int), r, true)) hN ?_
    refine Ev.congr (f := fun _ => some (toT (rdT (some (v, r)) most))) (fun k => ?_) (Ev.now _)
    have h1 := hlt v r rfl
    have h2 := htl v r rfl
    have e1 : IntKind.u64.wrap (most : Int) = (most : Int) := wraps_u64 _ (by omega) (by omega)
    have e2 : IntKind.u64.wrap (r.length : Int) = (r.length : Int) := wraps_u64 _ (by omega) (by omega)
    dsimp only [rdT]
    rw [if_pos rfl, e1, e2, if_neg (by omega)]
    by_cases h3 : most < v
    · rw [if_pos (by omega), if_pos (.inl h3)]; rfl
    · rw [if_neg (by omega)]
      by_cases h4 : r.length < v
      · rw [if_pos (by omega), if_pos (.inr h4)]; rfl
      · have e3 : wrap64 (v : Int) = (v : Int) := wrap64_small _ (by omega) (by omega)
        rw [if_neg (by omega), if_pos (by omega), if_pos (by omega), if_neg (by omega), e3, behind_ok r v (by omega) (by omega), Int.toNat_natCast]
        rfl
theorem rdT_text (f : List Int → Option (Nat × List Int)) (s : ByteArray) (most : Nat) (hs : s.size ≤ most) (rest : List Int) (hf : f (numB s.size ++ (bytesOf s ++ rest)) = some (s.size, bytesOf s ++ rest)) : rdT (f (textB s ++ rest)) most = some (s, rest) := by
  have hb := bytesOf_length s
  rw [textB, List.append_assoc, hf]
  simp only [rdT]
  rw [if_neg (by rw [List.length_append]; omega), ← hb, List.take_left, List.drop_left, str_bytes]
theorem rdT_tail {o : Option (Nat × List Int)} {most : Nat} {s : ByteArray} {r : List Int} (h : rdT o most = some (s, r)) : ∃ v q, o = some (v, q) ∧ s = strOfNums (q.take v) ∧ r = q.drop v ∧ v ≤ most ∧ v ≤ q.length := by
  cases o with
  | none => cases h
  | some p =>
    obtain ⟨v, q⟩ := p
    simp only [rdT] at h
    split at h
    · cases h
    · simp only [Option.some.injEq, Prod.mk.injEq] at h
      exact ⟨v, q, rfl, h.1.symm, h.2.symm, by omega, by omega⟩
/-! ### Fixed at two bytes -/
def fix2 (n : Nat) : List Int := [((n / 256 % 256 : Nat) : Int), ((n % 256 : Nat) : Int)]
theorem low8 (n : Nat) (h : n < 2 ^ 64) : Go.bits .and .u64 (n : Int) 255 % 256 = ((n % 256 : Nat) : Int) := by
  have := bits_mask .u64 64 (by decide) wraps_u64 8 (by decide) (n : Int) (by omega) (by omega)
  rw [show ((255 : Int)) = 2 ^ 8 - 1 from rfl, this]
  omega
theorem fixed_ev (n : Nat) (h : n < 2 ^ 64) : Ev (fun k => code_Fixed.f k (n : Int) 2) (fix2 n) := by
  have e1 := low8 n h
  have e2 := low8 (n / 256) (by omega)
  have e0 : (n : Int) / 256 = ((n / 256 : Nat) : Int) := by omega
  refine ⟨4, fun k hk => ?_⟩
  obtain ⟨m, rfl⟩ : ∃ m, k = m + 4 := ⟨k - 4, by omega⟩
  show code_Fixed.f (m + 4) (n : Int) 2 = _
  unfold code_Fixed.f
  rw [if_neg (by omega), decide_eq_false (by omega), code_Fixed.j0, if_neg (by decide), if_pos (by omega), if_pos (by decide)]
  have w1 : wrap64 (2 - 1) = 1 := by unfold wrap64; omega
  have w2 : wrap64 (1 - 1) = 0 := by unfold wrap64; omega
  have w3 : wrap64 (0 - 1) = -1 := by unfold wrap64; omega
  rw [w1, code_Fixed.l0, if_pos (by decide), if_pos (by decide), if_pos (by simp), e1, w2, e0, code_Fixed.l0, if_pos (by decide), if_pos (by decide), if_pos (by simp), e2, w3, code_Fixed.l0, if_neg (by decide)]
  rfl
/-! ### With how many bytes both begin -/
def shL : List UInt8 → List UInt8 → Nat
  | x :: a, y :: b => if x = y then shL a b + 1 else 0
  | _, _ => 0
def shN (a b : ByteArray) : Nat := shL a.data.toList b.data.toList
theorem shL_le : ∀ a b, shL a b ≤ a.length ∧ shL a b ≤ b.length
  | [], _ => by simp [shL]
  | _ :: _, [] => by simp [shL]
  | x :: a, y :: b => by
    have := shL_le a b
    rw [shL]
    split
    · simp; omega
    · simp
theorem shL_eq : ∀ a b : List UInt8, a.take (shL a b) = b.take (shL a b)
  | [], _ => by simp [shL]
  | _ :: _, [] => by simp [shL]
  | x :: a, y :: b => by
    have := shL_eq a b
    rw [shL]
    split
    · rename_i h; rw [List.take_succ_cons, List.take_succ_cons, this, h]
    · simp
theorem shN_le (a b : ByteArray) : shN a b ≤ a.size ∧ shN a b ≤ b.size := by
  have := shL_le a.data.toList b.data.toList
  rw [data_length, data_length] at this
  exact this
theorem extract_list (a : ByteArray) (i j : Nat) : (a.extract i j).data.toList = (a.data.toList.take j).drop i := by
  rw [ByteArray.data_extract, Array.toList_extract]
  simp only [List.extract_eq_take_drop]
  rw [List.take_drop]
  rcases Nat.le_total i j with h | h
  · rw [Nat.add_sub_cancel' h]
  · rw [Nat.sub_eq_zero_of_le h, List.drop_eq_nil_of_le (by rw [List.length_take]; omega), List.drop_eq_nil_of_le (by rw [List.length_take]; omega)]
theorem byte_ext {a b : ByteArray} (h : a.data.toList = b.data.toList) : a = b := ByteArray.ext (Array.toList_inj.1 h)
theorem shN_eq (a b : ByteArray) : a.extract 0 (shN a b) = b.extract 0 (shN a b) := by
  apply byte_ext
  rw [extract_list, extract_list, List.drop_zero, List.drop_zero]
  exact shL_eq _ _
theorem bt_D (a : ByteArray) (i : Nat) (h : i < a.size) : bt a (i : Int) = ((a.data.toList[i]'(by rw [data_length]; exact h)).toNat : Int) := by
  unfold bt
  rw [dif_pos (by rw [Int.toNat_natCast]; exact h)]
  rfl
theorem Ev_sh (a b : ByteArray) (ha : a.size < 2 ^ 62) : ∀ (m i : Nat), a.size - i = m → i ≤ a.size → i ≤ b.size → Ev (fun k => block_shared.l0 k a b (i : Int)) (((i + shL (a.data.toList.drop i) (b.data.toList.drop i) : Nat)) : Int) := by
  intro m
  induction m with
  | zero =>
    intro i hm h1 h2
    have : i = a.size := by omega
    subst this
    rw [List.drop_eq_nil_of_le (by rw [data_length]; omega)]
    refine Ev.step (f := fun _ => some ((a.size : Nat) : Int)) (fun k => ?_) (Ev.now _)
    rw [block_shared.l0, if_neg (by omega)]
  | succ m ih =>
    intro i hm h1 h2
    by_cases h3 : i < b.size
    · have hA : i < a.data.toList.length := by rw [data_length]; omega
      have hB : i < b.data.toList.length := by rw [data_length]; omega
      rw [List.drop_eq_getElem_cons hA, List.drop_eq_getElem_cons hB, shL]
      by_cases h4 : a.data.toList[i] = b.data.toList[i]
      · rw [if_pos h4]
        refine Ev.step (f := fun k => block_shared.l0 k a b ((i + 1 : Nat) : Int)) (fun k => ?_) ?_
        · rw [block_shared.l0, if_pos (by omega), if_pos (by omega), if_pos (by omega), bt_D a i (by omega), bt_D b i h3, h4, if_pos rfl, wrap64_small _ (by omega) (by omega)]
          rfl
        · have := ih (i + 1) (by omega) (by omega) (by omega)
          rw [show i + (shL (a.data.toList.drop (i + 1)) (b.data.toList.drop (i + 1)) + 1) = i + 1 + shL (a.data.toList.drop (i + 1)) (b.data.toList.drop (i + 1)) by omega]
          exact this
      · rw [if_neg h4]
        refine Ev.step (f := fun _ => some (((i + 0 : Nat)) : Int)) (fun k => ?_) (Ev.now _)
        rw [block_shared.l0, if_pos (by omega), if_pos (by omega), if_pos (by omega), bt_D a i (by omega), bt_D b i h3, if_neg]
        · rfl
        · intro h5
          exact h4 (UInt8.toNat_inj.1 (by omega))
    · have : i = b.size := by omega
      subst this
      rw [show b.data.toList.drop b.size = [] from List.drop_eq_nil_of_le (by rw [data_length]; omega)]
      have e : shL (a.data.toList.drop b.size) [] = 0 := by cases a.data.toList.drop b.size <;> rfl
      rw [e]
      refine Ev.step (f := fun _ => some ((b.size : Nat) : Int)) (fun k => ?_) (Ev.now _)
      rw [block_shared.l0, if_pos (by omega), if_neg (by omega)]
theorem sh_ev (a b : ByteArray) (ha : a.size < 2 ^ 62) : Ev (fun k => block_shared.f k a b) ((shN a b : Nat) : Int) := by
  have := Ev_sh a b ha a.size 0 (by omega) (by omega) (by omega)
  simpa [block_shared.f, shN] using this
end Go.Proofs.Ytoeidpenpehlpaa.PB
end
section
set_option linter.unusedVariables false
set_option linter.unusedSimpArgs false
namespace Go.Proofs.Ytoeidpenpehlpaa.PB
open Go.RowKit Go.Proofs.YtoeidpenpehlpaaW.PrintWords Go.Proofs.YtoeidpenpehlpaaW.PrintLast Go.Proofs.YtoeidpenpehlpaaW.PrintMore
def chk (e : S37) : Prop := 1 ≤ e.f0.size ∧ e.f0.size ≤ 64 ∧ 1 ≤ e.f1 ∧ e.f1 ≤ 1099511627776 ∧ e.f3.length ≤ 256 ∧ (e.f2 = true → e.f3.length = 0)
instance (e : S37) : Decidable (chk e) := by unfold chk; infer_instance
def ahd (a b : S37) : Prop := if a.f0.toList = b.f0.toList then b.f1 < a.f1 else Op.bytesLess a.f0.toList b.f0.toList = true
instance (a b : S37) : Decidable (ahd a b) := by unfold ahd; infer_instance
theorem check_eq (e : S37) : mem_Check.f e.f0 e.f1 e.f2 e.f3 = some (if chk e then 0 else 100) := by
  obtain ⟨f0, f1, f2, f3⟩ := e
  by_cases hq : chk ⟨f0, f1, f2, f3⟩
  · rw [if_pos hq]
    unfold chk at hq
    unfold mem_Check.f
    dsimp only at hq ⊢
    cases f2 <;> simp only [Bool.false_eq_true, if_true, if_false, false_implies, true_implies, and_true] at hq ⊢ <;> (repeat' split) <;> first | rfl | (exfalso; omega)
  · rw [if_neg hq]
    unfold chk at hq
    unfold mem_Check.f
    dsimp only at hq ⊢
    cases f2 <;> simp only [Bool.false_eq_true, if_true, if_false, false_implies, true_implies, and_true] at hq ⊢ <;> (repeat' split) <;> first | rfl | (exfalso; omega)
def cmpE (a b : S37) : Int := if Op.bytesLess a.f0.toList b.f0.toList = true then -1 else if Op.bytesLess b.f0.toList a.f0.toList = true then 1 else if b.f1 < a.f1 then -1 else if b.f1 > a.f1 then 1 else 0
theorem cmp_eq (a b : S37) : mem_Compare.f a.f0 a.f1 a.f2 a.f3 b.f0 b.f1 b.f2 b.f3 = some (cmpE a b) := by
  unfold mem_Compare.f cmp_Compare_string.f cmp_Compare_int.f cmp_isNaN_string.f cmp_isNaN_int.f cmpE
  simp only [bne_self_eq_false, Option.bind_some, Bool.false_eq_true, if_false]
  split
  · rfl
  · split
    · rfl
    · simp only [Option.bind_some, if_true]
      repeat' split
      all_goals rfl
theorem cmp_neg (a b : S37) : cmpE a b < 0 ↔ ahd a b := by
  unfold cmpE ahd
  by_cases h1 : Op.bytesLess a.f0.toList b.f0.toList = true
  · have h2 : a.f0.toList ≠ b.f0.toList := by
      intro e; rw [e, less_irr] at h1; cases h1
    rw [if_pos h1, if_neg h2]
    simp [h1]
  · rw [if_neg h1]
    by_cases h2 : a.f0.toList = b.f0.toList
    · rw [if_pos h2, h2, if_neg (by rw [less_irr]; decide)]
      split
      · simp; assumption
      · split <;> simp <;> omega
    · rw [if_neg h2]
      by_cases h3 : Op.bytesLess b.f0.toList a.f0.toList = true
      · rw [if_pos h3]; simp [h1]
      · exact absurd (less_tot _ _ (by simpa using h1) (by simpa using h3)) h2
def stepOK (l : List S37) (i : Nat) : Bool := decide (chk (l.getD i z37)) && (i == 0 || decide (ahd (l.getD (i - 1) z37) (l.getD i z37)))
def okFrom (l : List S37) : Nat → Nat → Bool
  | 0, _ => true
  | m + 1, i => stepOK l i && okFrom l m (i + 1)
def fineL (l : List S37) : Bool := decide (1 ≤ l.length ∧ l.length ≤ 64) && okFrom l l.length 0
theorem rdT_D (l : List S37) (i : Nat) : rd_T37 l (i : Int) = l.getD i z37 := by unfold rd_T37; rw [Int.toNat_natCast]
theorem w_prev (i : Nat) (h : 0 < i) (h2 : i ≤ 9223372036854775807) : wrap64 ((i : Int) - 1) = ((i - 1 : Nat) : Int) := by rw [wrap64_small _ (by omega) (by omega)]; omega
theorem w_next (i : Nat) (h2 : i < 9223372036854775807) : wrap64 ((i : Int) + 1) = ((i + 1 : Nat) : Int) := by rw [wrap64_small _ (by omega) (by omega)]; omega
theorem Ev_sound (l : List S37) (hl : l.length ≤ 9223372036854775807) : ∀ m i, m + i = l.length → Ev (fun k => block_sound.l0 k l l (l.length : Int) (i : Int)) (okFrom l m i && decide (1 ≤ l.length ∧ l.length ≤ 64)) := by
  intro m
  induction m with
  | zero =>
    intro i hm
    refine Ev.step (f := fun _ => some (okFrom l 0 i && decide (1 ≤ l.length ∧ l.length ≤ 64))) (fun k => ?_) (Ev.now _)
    rw [block_sound.l0, if_neg (by omega), okFrom, Bool.true_and]
    by_cases h1 : 1 ≤ l.length
    · rw [if_pos (by omega)]
      congr 1
      apply decide_eq_decide.2
      omega
    · rw [if_neg (by omega)]
      rw [decide_eq_false (by omega)]
  | succ m ih =>
    intro i hm
    rw [okFrom]
    by_cases hc : chk (l.getD i z37)
    · by_cases h0 : i = 0
      · subst h0
        have e : stepOK l 0 = true := by unfold stepOK; rw [decide_eq_true hc]; rfl
        rw [e, Bool.true_and]
        refine Ev.step (f := fun k => block_sound.l0 k l l (l.length : Int) ((0 + 1 : Nat) : Int)) (fun k => ?_) (ih 1 (by omega))
        rw [block_sound.l0, if_pos (by omega), if_pos (by omega), if_pos (by omega), rdT_D, check_eq, if_pos hc]
        simp only [Option.bind_some, if_true]
        rw [if_neg (by omega), w_next _ (by omega)]
      · have hcmp := cmp_eq (l.getD (i - 1) z37) (l.getD i z37)
        have hneg := cmp_neg (l.getD (i - 1) z37) (l.getD i z37)
        by_cases ha : ahd (l.getD (i - 1) z37) (l.getD i z37)
        · have e : stepOK l i = true := by unfold stepOK; rw [decide_eq_true hc, decide_eq_true ha, Bool.or_true]; rfl
          rw [e, Bool.true_and]
          refine Ev.step (f := fun k => block_sound.l0 k l l (l.length : Int) ((i + 1 : Nat) : Int)) (fun k => ?_) (ih (i + 1) (by omega))
          rw [block_sound.l0, if_pos (by omega), if_pos (by omega), if_pos (by omega), rdT_D, check_eq, if_pos hc]
          simp only [Option.bind_some, if_true]
          rw [if_pos (by omega), w_prev i (by omega) (by omega), if_pos (by omega), if_pos (by omega), rdT_D, hcmp, w_next _ (by omega)]
          simp only [Option.bind_some]
          have := hneg.2 ha
          rw [if_neg (by omega)]
        · have e : stepOK l i = false := by unfold stepOK; rw [decide_eq_true hc, decide_eq_false ha, Bool.or_false, Bool.true_and]; exact beq_eq_false_iff_ne.2 h0
          rw [e, Bool.false_and, Bool.false_and]
          refine Ev.step (f := fun _ => some false) (fun k => ?_) (Ev.now _)
          rw [block_sound.l0, if_pos (by omega), if_pos (by omega), if_pos (by omega), rdT_D, check_eq, if_pos hc]
          simp only [Option.bind_some, if_true]
          rw [if_pos (by omega), w_prev i (by omega) (by omega), if_pos (by omega), if_pos (by omega), rdT_D, hcmp]
          simp only [Option.bind_some]
          have : ¬ cmpE (l.getD (i - 1) z37) (l.getD i z37) < 0 := fun h => ha (hneg.1 h)
          rw [if_pos (by omega)]
    · have e : stepOK l i = false := by unfold stepOK; rw [decide_eq_false hc, Bool.false_and]
      rw [e, Bool.false_and, Bool.false_and]
      refine Ev.step (f := fun _ => some false) (fun k => ?_) (Ev.now _)
      rw [block_sound.l0, if_pos (by omega), if_pos (by omega), if_pos (by omega), rdT_D, check_eq, if_neg hc]
      rfl
theorem sound_ev (l : List S37) (hl : l.length ≤ 9223372036854775807) : Ev (fun k => block_sound.f k l) (fineL l) := by
  have := Ev_sound l hl l.length 0 (by omega)
  rw [Bool.and_comm] at this
  exact this
end Go.Proofs.Ytoeidpenpehlpaa.PB
end
section
set_option linter.unusedVariables false
set_option linter.unusedSimpArgs false
namespace Go.Proofs.Ytoeidpenpehlpaa.PB
open Go.RowKit Go.Proofs.YtoeidpenpehlpaaW.PrintWords Go.Proofs.YtoeidpenpehlpaaW.PrintLast Go.Proofs.YtoeidpenpehlpaaW.PrintMore
theorem Ev.pos {α : Type} {c : Prop} [Decidable c] {g f : Nat → Option α} {r : α} (h : c) (k : Ev g r) : Ev (fun n => if c then g n else f n) r := Ev.congr (fun _ => if_pos h) k
theorem Ev.neg {α : Type} {c : Prop} [Decidable c] {g f : Nat → Option α} {r : α} (h : ¬ c) (k : Ev f r) : Ev (fun n => if c then g n else f n) r := Ev.congr (fun _ => if_neg h) k
theorem Ev.have_ {α β : Type} {x : α} {f : Nat → α → Option β} {r : β} (k : Ev (fun n => f n x) r) : Ev (fun n => (some x).bind (f n)) r := k
def shr (i : Nat) (p q : ByteArray) : Nat := if i % 8 = 0 then 0 else shN p q
theorem shr_le (i : Nat) (p q : ByteArray) : shr i p q ≤ q.size := by
  unfold shr; split
  · omega
  · exact (shN_le p q).2
def keyB (i : Nat) (p : ByteArray) (e : S37) : List Int := numB (shr i p e.f0) ++ textB (e.f0.extract (shr i p e.f0) e.f0.size)
def valB (e : S37) : List Int := if e.f2 = true then numB (2 * e.f1.toNat + 1) else numB (2 * e.f1.toNat) ++ textB (strOfNums e.f3)
def entB (i : Nat) (p : ByteArray) (e : S37) : List Int := keyB i p e ++ valB e
def encF (l : List S37) : Nat → Nat → List Int → List Int → List Int
  | 0, _, out, st => out ++ st ++ [((l.length : Nat) : Int) % 256]
  | m + 1, i, out, st => encF l m (i + 1) (out ++ entB i (l.getD (i - 1) z37).f0 (l.getD i z37)) (if i % 8 = 0 then st ++ fix2 out.length else st)
def encB (l : List S37) : List Int := encF l l.length 0 [] []
theorem keyB_len (i : Nat) (p : ByteArray) (e : S37) (h : chk e) : (keyB i p e).length ≤ 84 := by
  have h1 := shr_le i p e.f0
  have h2 := h.2.1
  have h3 := numB_ten (n := shr i p e.f0) (by omega)
  have h4 := textB_len (e.f0.extract (shr i p e.f0) e.f0.size) (by rw [ByteArray.size_extract]; omega)
  rw [ByteArray.size_extract] at h4
  simp only [keyB, List.length_append]; omega
theorem valB_len (e : S37) (h : chk e) : (valB e).length ≤ 286 := by
  obtain ⟨_, _, h3, h4, h5, _⟩ := h
  unfold valB
  split
  · have := numB_ten (n := 2 * e.f1.toNat + 1) (by omega); omega
  · have := numB_ten (n := 2 * e.f1.toNat) (by omega)
    have h6 := textB_len (strOfNums e.f3) (by rw [strOfNums_size]; omega)
    rw [strOfNums_size] at h6
    rw [List.length_append]; omega
theorem entB_len (i : Nat) (p : ByteArray) (e : S37) (h : chk e) : (entB i p e).length ≤ 370 := by
  have := keyB_len i p e h
  have := valB_len e h
  rw [entB, List.length_append]; omega
theorem fix2_len (n : Nat) : (fix2 n).length = 2 := rfl
theorem okFrom_at (l : List S37) : ∀ m i, okFrom l m i = true → ∀ j, i ≤ j → j < i + m → stepOK l j = true := by
  intro m
  induction m with
  | zero => intro i _ j h1 h2; omega
  | succ m ih =>
    intro i h j h1 h2
    rw [okFrom, Bool.and_eq_true] at h
    rcases Nat.lt_or_ge i j with h3 | h3
    · exact ih (i + 1) h.2 j h3 (by omega)
    · have : j = i := by omega
      rw [this]; exact h.1
theorem fine_len {l : List S37} (h : fineL l = true) : 1 ≤ l.length ∧ l.length ≤ 64 := by
  unfold fineL at h
  rw [Bool.and_eq_true, decide_eq_true_eq] at h
  exact h.1
theorem fine_step {l : List S37} (h : fineL l = true) {i : Nat} (hi : i < l.length) : stepOK l i = true := by
  unfold fineL at h
  rw [Bool.and_eq_true] at h
  exact okFrom_at l _ _ h.2 i (by omega) (by omega)
theorem fine_chk {l : List S37} (h : fineL l = true) {i : Nat} (hi : i < l.length) : chk (l.getD i z37) := by
  have := fine_step h hi
  unfold stepOK at this
  rw [Bool.and_eq_true, decide_eq_true_eq] at this
  exact this.1
theorem fine_ahd {l : List S37} (h : fineL l = true) {i : Nat} (hi : i < l.length) (h0 : 0 < i) : ahd (l.getD (i - 1) z37) (l.getD i z37) := by
  have := fine_step h hi
  unfold stepOK at this
  rw [Bool.and_eq_true, Bool.or_eq_true, decide_eq_true_eq, decide_eq_true_eq] at this
  rcases this.2 with h1 | h1
  · exact absurd (beq_iff_eq.1 h1) (by omega)
  · exact h1
theorem Ev_j1 (l : List S37) (n i : Nat) (out st : List Int) (e : S37) (r : List Int × Int) (hc : chk e) (hn : n ≤ e.f0.size) (hi : i ≤ 64) (hout : out.length ≤ 24000)
    (h : Ev (fun k => block_Encode.l0 k l (out ++ (numB n ++ textB (e.f0.extract n e.f0.size) ++ valB e)) st l (l.length : Int) ((i + 1 : Nat) : Int)) r) :
    Ev (fun k => block_Encode.j1 k l out st (n : Int) l (l.length : Int) (i : Int) e.f0 e.f1 e.f2 e.f3) r := by
  obtain ⟨c1, c2, c3, c4, c5, c6⟩ := hc
  have hn2 : n < 2 ^ 64 := by omega
  have t1 := numB_ten hn2
  have hx : (e.f0.extract n e.f0.size).size = e.f0.size - n := by rw [ByteArray.size_extract]; omega
  have t2 := textB_len (e.f0.extract n e.f0.size) (by omega)
  have E1 := num_ev n hn2
  have E2 := text_ev (e.f0.extract n e.f0.size) (by omega)
  have w0 : IntKind.u64.wrap (n : Int) = (n : Int) := wraps_u64 _ (by omega) (by omega)
  have wi := w_next i (by omega)
  obtain ⟨q, hq⟩ := Int.eq_ofNat_of_zero_le (show 0 ≤ e.f1 by omega)
  have w1 : IntKind.u64.wrap (2 * (IntKind.u64.wrap (e.f1))) = ((2 * e.f1.toNat : Nat) : Int) := by
    rw [wraps_u64 e.f1 (by omega) (by omega), wraps_u64 _ (by omega) (by omega)]; omega
  have w2 : IntKind.u64.wrap (((2 * e.f1.toNat : Nat) : Int) + 1) = ((2 * e.f1.toNat + 1 : Nat) : Int) := by
    rw [wraps_u64 _ (by omega) (by omega)]; omega
  refine Ev.step (f := fun k => (code_Num.f k (n : Int)).bind fun t154 => (if out.length + t154.length < 140737488355328 then ((some (out ++ t154 : List Int)).bind fun y157 => (if (0 : Int) ≤ (n : Int) then (if (n : Int) ≤ (e.f0.size : Int) then ((code_Text.f k (e.f0.extract (n : Int).toNat e.f0.size)).bind fun t160 => (if y157.length + t160.length < 140737488355328 then ((some (y157 ++ t160 : List Int)).bind fun y163 => (if e.f2 = true then ((code_Num.f k ((2 * e.f1.toNat + 1 : Nat) : Int)).bind fun t166 => (if y163.length + t166.length < 140737488355328 then (block_Encode.l0 k l (y163 ++ t166) st l (l.length : Int) ((i + 1 : Nat) : Int)) else (none))) else ((code_Num.f k ((2 * e.f1.toNat : Nat) : Int)).bind fun t172 => (if y163.length + t172.length < 140737488355328 then ((some (y163 ++ t172 : List Int)).bind fun y175 => ((code_Text.f k (strOfNums e.f3)).bind fun t178 => (if y175.length + t178.length < 140737488355328 then (block_Encode.l0 k l (y175 ++ t178) st l (l.length : Int) ((i + 1 : Nat) : Int)) else (none)))) else (none))))) else (none))) else (none)) else (none))) else (none))) (fun k => ?_) ?_
  · rw [block_Encode.j1, w0, w1, w2, wi]
  clear w0 w1 w2 wi
  refine Ev.bind E1 ?_
  refine Ev.pos (by omega) ?_
  refine Ev.have_ ?_
  refine Ev.pos (by omega) ?_
  refine Ev.pos (by omega) ?_
  rw [Int.toNat_natCast]
  refine Ev.bind E2 ?_
  refine Ev.pos (by rw [List.length_append]; omega) ?_
  refine Ev.have_ ?_
  unfold valB at h
  by_cases hd : e.f2 = true
  · rw [if_pos hd] at h
    refine Ev.pos hd ?_
    have t3 := numB_ten (n := 2 * e.f1.toNat + 1) (by omega)
    refine Ev.bind (num_ev (2 * e.f1.toNat + 1) (by omega)) ?_
    refine Ev.pos (by rw [List.length_append, List.length_append]; omega) ?_
    simpa only [List.append_assoc] using h
  · rw [if_neg hd] at h
    refine Ev.neg hd ?_
    have t3 := numB_ten (n := 2 * e.f1.toNat) (by omega)
    have t4 := textB_len (strOfNums e.f3) (by rw [strOfNums_size]; omega)
    rw [strOfNums_size] at t4
    refine Ev.bind (num_ev (2 * e.f1.toNat) (by omega)) ?_
    refine Ev.pos (by rw [List.length_append, List.length_append]; omega) ?_
    refine Ev.have_ ?_
    refine Ev.bind (text_ev (strOfNums e.f3) (by rw [strOfNums_size]; omega)) ?_
    refine Ev.pos (by rw [List.length_append, List.length_append, List.length_append]; omega) ?_
    simpa only [List.append_assoc] using h
theorem Ev_enc (l : List S37) (hf : fineL l = true) : ∀ m i out st, m + i = l.length → out.length ≤ i * 370 → st.length ≤ i * 2 → Ev (fun k => block_Encode.l0 k l out st l (l.length : Int) (i : Int)) (encF l m i out st, 0) := by
  have hl := fine_len hf
  intro m
  induction m with
  | zero =>
    intro i out st hm ho hs
    refine Ev.step (f := fun _ => some (encF l 0 i out st, 0)) (fun k => ?_) (Ev.now _)
    rw [block_Encode.l0, if_neg (by omega), if_pos (by omega)]
    simp only [Option.bind_some]
    rw [if_pos (by rw [List.length_append]; omega)]
    rfl
  | succ m ih =>
    intro i out st hm ho hs
    have hlt : i < l.length := by omega
    have hc := fine_chk hf hlt
    have e8 : Int.tmod (i : Int) 8 = ((i % 8 : Nat) : Int) := by rw [Int.tmod_eq_emod_of_nonneg (by omega)]; omega
    have hen := entB_len i (l.getD (i - 1) z37).f0 (l.getD i z37) hc
    rw [encF]
    have hnext := ih (i + 1) (out ++ entB i (l.getD (i - 1) z37).f0 (l.getD i z37)) (if i % 8 = 0 then st ++ fix2 out.length else st) (by omega) (by rw [List.length_append]; omega) (by split <;> (try rw [List.length_append, fix2_len]) <;> omega)
    have hD := rdT_D l i
    have hle := shr_le i (l.getD (i - 1) z37).f0 (l.getD i z37).f0
    by_cases h0 : i % 8 = 0
    · rw [if_pos h0] at hnext
      have hs0 : shr i (l.getD (i - 1) z37).f0 (l.getD i z37).f0 = 0 := if_pos h0
      refine Ev.step (f := fun k => (code_Fixed.f k (out.length : Int) 2).bind fun t146 => (if st.length + t146.length < 140737488355328 then (block_Encode.j1 k l out (st ++ t146) ((0 : Nat) : Int) l (l.length : Int) (i : Int) (l.getD i z37).f0 (l.getD i z37).f1 (l.getD i z37).f2 (l.getD i z37).f3) else none)) (fun k => ?_) ?_
      · rw [block_Encode.l0, if_pos (by omega), if_pos (by omega), if_pos (by omega), e8, if_pos (by omega), wraps_u64 _ (by omega) (by omega), hD]
        rfl
      · refine Ev.bind (fixed_ev out.length (by omega)) ?_
        refine Ev.pos (by rw [fix2_len]; omega) ?_
        refine Ev_j1 l 0 i out (st ++ fix2 out.length) (l.getD i z37) _ hc (by omega) (by omega) (by omega) ?_
        rw [entB, keyB, hs0] at hnext
        rw [if_pos h0, entB, keyB, hs0]
        exact hnext
    · rw [if_neg h0] at hnext
      have hs0 : shr i (l.getD (i - 1) z37).f0 (l.getD i z37).f0 = shN (l.getD (i - 1) z37).f0 (l.getD i z37).f0 := if_neg h0
      have hpc := fine_chk hf (show i - 1 < l.length by omega)
      have hps := hpc.2.1
      refine Ev.step (f := fun k => (block_shared.f k (l.getD (i - 1) z37).f0 (l.getD i z37).f0).bind fun t153 => (block_Encode.j1 k l out st t153 l (l.length : Int) (i : Int) (l.getD i z37).f0 (l.getD i z37).f1 (l.getD i z37).f2 (l.getD i z37).f3)) (fun k => ?_) ?_
      · rw [block_Encode.l0, if_pos (by omega), if_pos (by omega), if_pos (by omega), e8, if_neg (by omega), w_prev i (by omega) (by omega), if_pos (by omega), if_pos (by omega), hD, rdT_D]
      · refine Ev.bind (sh_ev _ _ (by omega)) ?_
        refine Ev_j1 l _ i out st (l.getD i z37) _ hc (by rw [← hs0]; exact hle) (by omega) (by omega) ?_
        rw [entB, keyB, hs0] at hnext
        rw [if_neg h0, entB, keyB, hs0]
        exact hnext
def encR (l : List S37) : List Int × Int := if fineL l = true then (encB l, 0) else ([], 120)
theorem enc_ev (l : List S37) (hl : l.length ≤ 9223372036854775807) : Ev (fun k => block_Encode.f k l) (encR l) := by
  refine Ev.bind (sound_ev l hl) ?_
  unfold encR
  by_cases hf : fineL l = true
  · rw [if_pos hf]
    refine Ev.pos hf ?_
    exact Ev_enc l hf l.length 0 [] [] (by omega) (by simp) (by simp)
  · rw [if_neg hf]
    refine Ev.neg hf ?_
    exact Ev.now _
end Go.Proofs.Ytoeidpenpehlpaa.PB
end
section
set_option linter.unusedVariables false
namespace Go.Proofs.Ytoeidpenpehlpaa.PB
open Go.RowKit Go.Proofs.YtoeidpenpehlpaaW.PrintWords Go.Proofs.YtoeidpenpehlpaaW.PrintLast Go.Proofs.YtoeidpenpehlpaaW.PrintMore
abbrev Reader := List Int → Option (Nat × List Int)
def entG (rN : Reader) (z : Bool) (b : List Int) (key : ByteArray) : Option (S37 × List Int) :=
  match rN b with
  | none => none
  | some (same, r1) => if key.size < same ∨ (z = true ∧ same ≠ 0) then none else
    match rdT (rN r1) 64 with
    | none => none
    | some (more, r2) =>
      match rN r2 with
      | none => none
      | some (seq, r3) => if 2199023255553 < seq then none else
        if seq % 2 = 1 then some (⟨key.extract 0 same ++ more, ((seq / 2 : Nat) : Int), true, []⟩, r3) else
        match rdT (rN r3) 256 with
        | none => none
        | some (val, r4) => some (⟨key.extract 0 same ++ more, ((seq / 2 : Nat) : Int), false, bytesOf val⟩, r4)
def entsG (rN : Reader) (z : Nat → Bool) : Nat → Nat → List Int → ByteArray → List S37 → Option (List S37)
  | 0, _, _, _, acc => some acc
  | m + 1, i, b, key, acc =>
    match entG rN (z i) b key with
    | none => none
    | some (e, r) => entsG rN z m (i + 1) r e.f0 (acc ++ [e])
def zP (i : Nat) : Bool := decide (i % 8 = 0)
def zR (_ : Nat) : Bool := false
def lastN (b : List Int) : Nat := (b.getD (b.length - 1) 0).toNat
def kept (b : List Int) (l : List S37) : Option (List S37) := if fineL l = true ∧ encB l = b then some l else none
def decP (b : List Int) : Option (List S37) := if b.length = 0 then none else if 1 ≤ lastN b ∧ lastN b ≤ 64 then (entsG rdN zP (lastN b) 0 (b.take (b.length - 1)) ⟨#[]⟩ []).bind (kept b) else none
def decR (b : List Int) : Option (List S37) := if b.length = 0 then none else (entsG rdRN zR (lastN b) 0 b ⟨#[]⟩ []).bind (kept b)
def okB (l : List S37) : Prop := ∀ e ∈ l, isB e.f3
theorem entG_ok {rN : Reader} {z : Bool} {b : List Int} {key : ByteArray} {e : S37} {r : List Int} (h : entG rN z b key = some (e, r)) : isB e.f3 := by
  unfold entG at h
  split at h
  · cases h
  · split at h
    · cases h
    · split at h
      · cases h
      · split at h
        · cases h
        · split at h
          · cases h
          · split at h
            · simp only [Option.some.injEq, Prod.mk.injEq] at h
              rw [← h.1]; intro x hx; cases hx
            · split at h
              · cases h
              · simp only [Option.some.injEq, Prod.mk.injEq] at h
                rw [← h.1]; exact bytesOf_isB _
theorem entsG_ok {rN : Reader} {z : Nat → Bool} : ∀ m i b key acc l, okB acc → entsG rN z m i b key acc = some l → okB l := by
  intro m
  induction m with
  | zero => intro i b key acc l ha h; simp only [entsG, Option.some.injEq] at h; rw [← h]; exact ha
  | succ m ih =>
    intro i b key acc l ha h
    rw [entsG] at h
    split at h
    · cases h
    · rename_i e r he
      refine ih _ _ _ _ _ (fun x hx => ?_) h
      rcases List.mem_append.1 hx with hx | hx
      · exact ha x hx
      · rw [List.mem_singleton.1 hx]; exact entG_ok he
theorem kept_some {b : List Int} {l l' : List S37} (h : kept b l = some l') : l = l' ∧ fineL l = true ∧ encB l = b := by
  unfold kept at h
  split at h
  · rename_i h1; exact ⟨Option.some.inj h, h1⟩
  · cases h
theorem decP_sound {b : List Int} {l : List S37} (h : decP b = some l) : fineL l = true ∧ encB l = b ∧ okB l := by
  unfold decP at h
  split at h
  · cases h
  · split at h
    · obtain ⟨l', h1, h2⟩ := Option.bind_eq_some_iff.1 h
      obtain ⟨rfl, h3, h4⟩ := kept_some h2
      exact ⟨h3, h4, entsG_ok _ _ _ _ _ _ (fun x hx => by cases hx) h1⟩
    · cases h
/-! ### What was written is read -/
theorem shr_head (i : Nat) (p q : ByteArray) : p.extract 0 (shr i p q) = q.extract 0 (shr i p q) := by
  unfold shr
  split
  · apply byte_ext; rw [extract_list, extract_list]; simp
  · exact shN_eq p q
theorem shr_key (i : Nat) (p q : ByteArray) : p.extract 0 (shr i p q) ++ q.extract (shr i p q) q.size = q := by
  have h := shr_le i p q
  rw [shr_head, ByteArray.extract_append_extract, Nat.min_eq_left (by omega), Nat.max_eq_right h, ByteArray.extract_zero_size]
theorem shr_le1 (i : Nat) (p q : ByteArray) : shr i p q ≤ p.size := by
  unfold shr; split
  · omega
  · exact (shN_le p q).1
theorem ent_read {rN : Reader} (hN : ∀ v, v < 2 ^ 64 → ∀ r, rN (numB v ++ r) = some (v, r)) (z : Bool) (i : Nat) (hz : z = true → i % 8 = 0) (p : ByteArray) (e : S37) (hc : chk e) (hb : isB e.f3) (rest : List Int) :
    entG rN z (entB i p e ++ rest) p = some (e, rest) := by
  obtain ⟨f0, f1, f2, f3⟩ := e
  obtain ⟨c1, c2, c3, c4, c5, c6⟩ := hc
  dsimp only at c1 c2 c3 c4 c5 c6 hb
  have h1 := shr_le i p f0
  have h2 := shr_le1 i p f0
  have h3 : ¬ (p.size < shr i p f0 ∨ (z = true ∧ shr i p f0 ≠ 0)) := by
    rintro (h | ⟨h, h4⟩)
    · omega
    · exact h4 (if_pos (hz h))
  have hx : (f0.extract (shr i p f0) f0.size).size ≤ 64 := by rw [ByteArray.size_extract]; omega
  unfold entG
  rw [entB, keyB, List.append_assoc, List.append_assoc, hN _ (by dsimp only; omega)]
  dsimp only
  rw [if_neg h3, rdT_text rN _ 64 hx _ (hN _ (by omega) _)]
  dsimp only
  unfold valB
  dsimp only
  cases f2 with
  | true =>
    rw [if_pos rfl, hN _ (by omega)]
    dsimp only
    have h5 : f3 = [] := List.length_eq_zero_iff.1 (c6 rfl)
    rw [if_neg (by omega), if_pos (by omega), shr_key, h5]
    congr 3
    omega
  | false =>
    rw [if_neg (by decide), List.append_assoc, hN _ (by omega)]
    dsimp only
    have hs : (strOfNums f3).size ≤ 256 := by rw [strOfNums_size]; exact c5
    rw [if_neg (by omega), if_neg (by omega), rdT_text rN _ 256 hs _ (hN _ (by omega) _)]
    dsimp only
    rw [shr_key, bytes_str _ hb]
    congr 3
    omega
def bodyF (l : List S37) : Nat → Nat → List Int
  | 0, _ => []
  | m + 1, i => entB i (l.getD (i - 1) z37).f0 (l.getD i z37) ++ bodyF l m (i + 1)
theorem encF_body (l : List S37) : ∀ m i out st, ∃ st', encF l m i out st = out ++ bodyF l m i ++ st' ++ [((l.length : Nat) : Int) % 256] := by
  intro m
  induction m with
  | zero => intro i out st; exact ⟨st, by rw [encF, bodyF, List.append_nil]⟩
  | succ m ih =>
    intro i out st
    rw [encF, bodyF]
    obtain ⟨st', h⟩ := ih (i + 1) (out ++ entB i (l.getD (i - 1) z37).f0 (l.getD i z37)) (if i % 8 = 0 then st ++ fix2 out.length else st)
    exact ⟨st', by rw [h]; simp only [List.append_assoc]⟩
theorem entB_prev (i : Nat) (p q : ByteArray) (e : S37) (h : i % 8 = 0) : entB i p e = entB i q e := by
  unfold entB keyB shr
  rw [if_pos h, if_pos h]
theorem ents_read {rN : Reader} (hN : ∀ v, v < 2 ^ 64 → ∀ r, rN (numB v ++ r) = some (v, r)) (z : Nat → Bool) (hz : ∀ i, z i = true → i % 8 = 0) (l : List S37) (hf : fineL l = true) (hb : okB l) (rest : List Int) :
    ∀ m i p acc, m + i = l.length → (i % 8 ≠ 0 → p = (l.getD (i - 1) z37).f0) → entsG rN z m i (bodyF l m i ++ rest) p acc = some (acc ++ l.drop i) := by
  intro m
  induction m with
  | zero =>
    intro i p acc hm _
    rw [entsG, List.drop_eq_nil_of_le (by omega), List.append_nil]
  | succ m ih =>
    intro i p acc hm hp
    have hlt : i < l.length := by omega
    have hc := fine_chk hf hlt
    have hg : l.getD i z37 = l[i] := by rw [List.getD_eq_getElem?_getD, List.getElem?_eq_getElem hlt]; rfl
    have he : entB i (l.getD (i - 1) z37).f0 (l.getD i z37) = entB i p (l.getD i z37) := by
      by_cases h : i % 8 = 0
      · exact entB_prev _ _ _ _ h
      · rw [hp h]
    rw [entsG, bodyF, he, List.append_assoc, ent_read hN (z i) i (hz i) p _ hc (by rw [hg]; exact hb _ (List.getElem_mem hlt))]
    dsimp only
    rw [ih (i + 1) _ _ (by omega) (fun _ => by rw [Nat.add_sub_cancel]), List.drop_eq_getElem_cons hlt, hg, List.append_assoc]
    rfl
theorem dec_full (l : List S37) (hf : fineL l = true) (hb : okB l) : decP (encB l) = some l ∧ decR (encB l) = some l := by
  obtain ⟨st', he⟩ := encF_body l l.length 0 [] []
  have hl := fine_len hf
  rw [List.nil_append] at he
  have heB : encB l = bodyF l l.length 0 ++ st' ++ [((l.length : Nat) : Int) % 256] := he
  have hlen : (encB l).length = (bodyF l l.length 0 ++ st').length + 1 := by rw [heB, List.length_append, List.length_singleton]
  have hlast : lastN (encB l) = l.length := by
    unfold lastN
    rw [hlen, Nat.add_sub_cancel, heB, List.getD_eq_getElem?_getD, List.getElem?_append_right (Nat.le_refl _), Nat.sub_self]
    simp only [List.getElem?_cons_zero, Option.getD_some]
    omega
  have hk : kept (encB l) l = some l := if_pos ⟨hf, rfl⟩
  have htake : (encB l).take ((encB l).length - 1) = bodyF l l.length 0 ++ st' := by
    rw [hlen, Nat.add_sub_cancel, heB, List.take_left]
  constructor
  · unfold decP
    rw [if_neg (by omega), hlast, if_pos hl, htake, ents_read (fun v hv r => rd_num v hv r) zP (fun i h => by simpa [zP] using h) l hf hb st' l.length 0 ⟨#[]⟩ [] (by omega) (fun h => absurd rfl h)]
    exact hk
  · unfold decR
    have : encB l = bodyF l l.length 0 ++ (st' ++ [((l.length : Nat) : Int) % 256]) := by rw [heB, List.append_assoc]
    rw [if_neg (by omega), hlast]
    conv => lhs; arg 1; rw [this]
    rw [ents_read (fun v hv r => rdR_num v hv r) zR (fun i h => by cases h) l hf hb _ l.length 0 ⟨#[]⟩ [] (by omega) (fun h => absurd rfl h)]
    exact hk
theorem encF_isB (l : List S37) : ∀ m i out st, isB out → isB st → isB (encF l m i out st) := by
  intro m
  induction m with
  | zero =>
    intro i out st h1 h2
    rw [encF]
    refine isB_app (isB_app h1 h2) (fun x hx => ?_)
    rw [List.mem_singleton.1 hx]; omega
  | succ m ih =>
    intro i out st h1 h2
    rw [encF]
    refine ih _ _ _ (isB_app h1 ?_) ?_
    · unfold entB keyB valB
      refine isB_app (isB_app (numB_isB _) (textB_isB _)) ?_
      split
      · exact numB_isB _
      · exact isB_app (numB_isB _) (textB_isB _)
    · split
      · refine isB_app h2 (fun x hx => ?_)
        simp only [fix2, List.mem_cons, List.not_mem_nil, or_false] at hx
        rcases hx with rfl | rfl <;> omega
      · exact h2
theorem encB_isB (l : List S37) : isB (encB l) := encF_isB l _ _ _ _ (fun x hx => by cases hx) (fun x hx => by cases hx)
theorem str_same {a b : List Int} (ha : isB a) (hb : isB b) : ((strOfNums a).toList == (strOfNums b).toList) = decide (a = b) := by
  by_cases h : a = b
  · rw [h, decide_eq_true rfl]; exact beq_self_eq_true _
  · rw [decide_eq_false h, beq_eq_false_iff_ne]
    intro h2
    rw [ByteArray.toList_eq, ByteArray.toList_eq] at h2
    have := byte_ext h2
    rw [← bytes_str a ha, ← bytes_str b hb, this] at h
    exact h rfl
end Go.Proofs.Ytoeidpenpehlpaa.PB
end
section
set_option linter.unusedVariables false
set_option linter.unusedSimpArgs false
namespace Go.Proofs.Ytoeidpenpehlpaa.PB
open Go.RowKit Go.Proofs.YtoeidpenpehlpaaW.PrintWords Go.Proofs.Ytoeidpenpehlpaa.Opn
theorem opens5 : Opens Try.prog 5 (Kd.int .u8) (fun n => 0 ≤ n ∧ n < 256) := by
  refine opens_imp (opens_int Try.underlying5) fun n h => ?_
  simp only [Lit.wf, Bool.and_eq_true, decide_eq_true_eq, IntKind.min, IntKind.max, IntKind.signed, IntKind.bits, if_true] at h
  simp at h
  omega
theorem opens24 : Opens Try.prog 24 (Kd.slice 5 (Kd.int .u8)) (fun l => isB l) :=
  opens_imp (opens_slice (B := 1) Try.underlying24 opens5 (by kernel_rfl) (by kernel_rfl)) fun l h x hx => h.2.2 x hx
theorem opens37 : Opens Try.prog 37 k37 (fun e => isB e.f3) :=
  opens_imp (opens_struct (d := Kd.pair Kd.string (Kd.pair (Kd.int .i64) (Kd.pair Kd.bool (Kd.slice 5 (Kd.int .u8))))) (fun x : S37 => (x.f0, x.f1, x.f2, x.f3)) (fun p => ⟨p.1, p.2.1, p.2.2.1, p.2.2.2⟩) (fun _ => rfl) Try.underlying37 (by kernel_rfl)
    (fields_cons rfl (by kernel_rfl) (opens_string Try.underlying9) (fields_cons rfl (by kernel_rfl) (opens_int Try.underlying3) (fields_cons rfl (by kernel_rfl) (opens_bool Try.underlying4) (fields_last rfl (by kernel_rfl) opens24))))) fun e h => h.2.2.2
theorem opens22 : Opens Try.prog 22 (Kd.slice 37 k37) (fun l => okB l) :=
  opens_imp (opens_slice (B := 56) Try.underlying22 opens37 (by kernel_rfl) (by kernel_rfl)) fun l h e he => h.2.2 e he
end Go.Proofs.Ytoeidpenpehlpaa.PB
end
section
set_option linter.unusedVariables false
set_option linter.unusedSimpArgs false
namespace Go.Proofs.Ytoeidpenpehlpaa.PB
set_option linter.unusedVariables false
open Go.RowKit Go.Proofs.YtoeidpenpehlpaaW.PrintWords Go.Proofs.YtoeidpenpehlpaaW.PrintLast Go.Proofs.YtoeidpenpehlpaaW.PrintMore
theorem C_twin {w W' : World} {A : Option Addr} {n : Nat} {xs : List S37} (h : k37.C w A n xs) (hW : ∀ k, k < w.heap.size → W'.heap[k]? = w.heap[k]?) : k37.C W' A n xs := by
  have hs : w.heap.size ≤ W'.heap.size := by
    by_cases h0 : w.heap.size = 0
    · omega
    · have := heap_lt (hW (w.heap.size - 1) (by omega)) (by omega)
      omega
  have hB : Below w.heap.size w { W' with os := w.os, tape := w.tape, output := w.output } := ⟨rfl, rfl, rfl, hs, hW⟩
  have h2 := Kd.C_below h hB
  exact h2
theorem F_of_C {w : World} {A : Option Addr} {n : Nat} {xs : List S37} (h : k37.C w A n xs) : Kd.F k37 w (fun _ => True) A n xs :=
  fun _ hW => C_twin h (fun k hk => hW k trivial hk)
end Go.Proofs.Ytoeidpenpehlpaa.PB
end
section
namespace Go.Proofs.Ytoeidpenpehlpaa.PB
open Go.RowKit Go.Proofs.YtoeidpenpehlpaaW.PrintWords Go.Proofs.YtoeidpenpehlpaaW.PrintLast Go.Proofs.YtoeidpenpehlpaaW.PrintMore
set_option linter.unusedVariables false
section
variable {P : Program} {ops : Array Oper} {rest : List Oper} {o : Oper} {a : Act} {Q : Exit → Act → World → Prop}
theorem alloc_event {W : World} (hgd : o.guard = none) {N : Tmp} (hd : o.dst = some N) {T : TypeId} {cs : Array Value} (ho : o.op = .alloc T)
    (hi : (P.info? T).map (·.zero) = some (some (.agg cs)))
    (h : ∀ g, g = W.heap.size → ∀ w1, w1.heap[g]? = some (.cells cs T (0, 0)) → Below W.heap.size W w1 → w1.heap.size = W.heap.size + 1 → wpList P ops Q rest (a.put o.dst (.pointer (some ⟨g, 0, none⟩))) w1) : wpList P ops Q (o :: rest) a W := by
  refine Kd.event_run (v := .pointer (some ⟨W.heap.size, 0, none⟩)) (w1 := W.alloc (.cells cs T (0, 0))) hgd ?_ (h _ rfl _ (blk_new W _) (below_alloc (Below.refl _ _) _) (by simp))
  obtain ⟨i, hi1, hi2⟩ := Option.map_eq_some_iff.1 hi
  unfold execOp
  simp only [ho]
  simp [Instr.alloc, zeroValue, typeInfo, hi1, hi2, newVar, newRow, Value.cells]
theorem store_agg_event {W : World} (hgd : o.guard = none) (hN : o.dst = none) {T e : TypeId} {p x : Operand} {cs cur : Array Value} {g : Nat} (ho : o.op = .store T p x)
    (hp : a.eval p = .pointer (some ⟨g, 0, none⟩)) (hx : a.eval x = .agg cs) (hb : W.heap[g]? = some (.cells cur e (0, 0)))
    (hi : (P.info? T).map (·.size) = some cs.size) (hn : cs.size ≤ cur.size) (h1 : ∀ q ∈ cs.toList, q.oneCell' = true)
    (h : ∀ w1, w1.heap[g]? = some (.cells (cs ++ cur.extract cs.size cur.size) e (0, 0)) → W.grownBy w1 (some g) → w1.heap.size = W.heap.size → wpList P ops Q rest a w1) : wpList P ops Q (o :: rest) a W := by
  have hrun := run_store_run (P := P) (w := W) (g := g) (o := 0) T (.agg cs) cs.toList hb rfl (by simpa using hi) (by simpa using hn) h1
  obtain ⟨cur', h3, h4, h5⟩ := setCells_row cs.toList 0 W cur hb (by simpa using hn)
  obtain ⟨s1, s2, s3, s4⟩ := setCells_same g cs.toList 0 W
  have e5 : cur' = cs ++ cur.extract cs.size cur.size := by
    apply Array.ext'
    rw [h5]
    simp
    rw [List.take_of_length_le (by simp)]
  rw [e5] at h3
  refine wpList_plain hgd fun K hK => ?_
  unfold Oper.wp execOp
  simp only [ho, hp, hx, Sem.run_bind, Sem.run_pure, Result.andThen_ok, hrun]
  show K (a.put o.dst undef) _
  rw [hN]
  exact hK a _ (h _ h3 ⟨s1, s2, s3, by rw [s4]; exact Nat.le_refl _, fun k _ hk => setCells_far cs.toList _ k (fun e => hk (by simp [e]))⟩ s4)
end
end Go.Proofs.Ytoeidpenpehlpaa.PB
end
section
set_option linter.unusedVariables false
set_option linter.unusedSimpArgs false
namespace Go.Proofs.Ytoeidpenpehlpaa.PB
open Go.RowKit Go.Proofs.YtoeidpenpehlpaaW.PrintWords Go.Proofs.YtoeidpenpehlpaaW.PrintLast Go.Proofs.YtoeidpenpehlpaaW.PrintMore
def wrongP : List PanicEntry := [{ v := .iface 49 (.agg #[]), recovered := false }]
theorem must_yes (w : World) : Calls Try.prog 30 #[.bool true] w fun e w' => e = .returned (.tuple #[]) ∧ w' = w := by
  have hnot : ∀ (x : Bool) (w : World), (Op.unary .not (.bool x)).run Try.prog w = .ok (.bool (!x)) w := fun _ _ => rfl
  go_enter Try.func30, Try.ntmps30
  go_wp2
  go_end0
  exact ⟨rfl, rfl⟩
theorem must_no (w : World) : Calls Try.prog 30 #[.bool false] w fun e w' => e = .panicked wrongP ∧ w' = w := by
  have hnot : ∀ (x : Bool) (w : World), (Op.unary .not (.bool x)).run Try.prog w = .ok (.bool (!x)) w := fun _ _ => rfl
  go_enter Try.func30, Try.ntmps30
  go_wp2
  simp [bodyPost, wrongP]
theorem catch_idle (p q : Addr) (w : World) :
    CallsD Try.prog 29 #[.pointer (some p), .pointer (some q)] .returning w fun e u' w' => e = .returned (.tuple #[]) ∧ u' = .returning ∧ w' = w := by
  refine callsD_of_wpS Try.func29 rfl fun c₀ cs hu => ?_
  apply wpS_seq
  apply wpS_region
  simp [wpOpsS, go_sem, recoverD, hu, Try.ntmps29, Exit.thenS]
  refine wpS_of_wp ?_
  have hne : ∀ w : World, (binOp BinOp.neq 20 .nilIface .nilIface).run Try.prog w = .ok (.bool false) w := fun _ => by kernel_rfl
  go_wp2
  cases c₀
  simp_all [bodyPostS, results, Try.results29, Exit.thenS]
theorem info49 : (Try.prog.info? 49).map (·.zero) = some (some (.agg #[])) := by kernel_rfl
theorem size49 : (Try.prog.info? 49).map (·.size) = some 0 := by kernel_rfl
theorem assert_event {P : Program} {ops : Array Oper} {rest : List Oper} {o : Oper} {a : Act} {Q : Exit → Act → World → Prop} {W : World} (hgd : o.guard = none) {v r : Value} {x : Operand} {s t : TypeId} (ho : o.op = .typeAssert x s t true) (hx : a.eval x = v)
    (hrun : (Instr.typeAssert v s t true).run P W = .ok r W) (h : wpList P ops Q rest (a.put o.dst r) W) : wpList P ops Q (o :: rest) a W := by
  refine Kd.event_run (v := r) (w1 := W) hgd ?_ h
  unfold execOp
  simp only [ho, hx]
  show ((Instr.typeAssert v s t true) >>= _).run P W = _
  rw [Sem.run_bind, hrun]
  rfl
theorem catch_gen (v : Value) (gp gq : Nat) (x y : Value) (older : List PanicEntry) (w : World) (hbp : w.heap[gp]? = some (.cells #[x] 22 (0, 0))) (hbq : w.heap[gq]? = some (.cells #[y] 25 (0, 0))) (hpq : gp ≠ gq)
    (hne : ∀ w : World, (binOp BinOp.neq 20 v .nilIface).run Try.prog w = .ok (.bool true) w) (heg : ∀ w : World, (eqGuard BinOp.neq 20 (Operand.tmp 6) (Operand.const Value.nilIface) v Value.nilIface).run Try.prog w = .ok () w) (hta : ∀ w : World, (Instr.typeAssert v 20 49 true).run Try.prog w = .ok (.tuple #[.agg #[], .bool true]) w) :
    CallsD Try.prog 29 #[.pointer (some ⟨gp, 0, none⟩), .pointer (some ⟨gq, 0, none⟩)] (.panicking ({ v := v, recovered := false } :: older)) w fun e u' w' => e = .returned (.tuple #[]) ∧ u' = .panicking ({ v := v, recovered := true } :: older) ∧ ∃ w3, Below w.heap.size w w3 ∧ w' = (w3.setCell ⟨gp, 0, none⟩ (.slice none 0 0)).setCell ⟨gq, 0, none⟩ (.int .i64 120) := by
  have hnot : ∀ (x : Bool) (w : World), (Op.unary .not (.bool x)).run Try.prog w = .ok (.bool (!x)) w := fun _ _ => rfl
  have hlp : gp < w.heap.size := (Array.getElem?_eq_some_iff.1 hbp).1
  have hlq : gq < w.heap.size := (Array.getElem?_eq_some_iff.1 hbq).1
  refine callsD_of_wpS Try.func29 rfl fun c₀ cs hu => ?_
  apply wpS_seq
  apply wpS_region
  simp [wpOpsS, go_sem, recoverD, hu, Try.ntmps29, Exit.thenS]
  rw [show (#[Value.pointer (some ⟨gp, 0, none⟩), Value.pointer (some ⟨gq, 0, none⟩)] ++ ((Array.replicate 14 undef).setIfInBounds 3 v).setIfInBounds 0 v : Array Value) = #[Value.pointer (some ⟨gp, 0, none⟩), Value.pointer (some ⟨gq, 0, none⟩), v, undef, undef, v, undef, undef, undef, undef, undef, undef, undef, undef, undef, undef] from rfl]
  refine wpS_of_wp ?_
  go_wp2_with (first | ((with_reducible refine gate_dst (N := 10) rfl ?_); refine assert_event rfl rfl rfl (hta _) ?_) | ((with_reducible refine gate_dst (N := 3) rfl ?_); refine alloc_event rfl (N := 3) rfl rfl info49 ?_; intro g2 hg2 w2 hb2 hB2 hs2; have HG := Aside0.mk hg2; have HB2 := Aside0.mk hB2; clear hg2 hB2 hs2) | ((with_reducible refine gate_store (t := 49) (p := 3) (v := .tmp 11) rfl ?_); refine store_agg_event (cs := #[]) rfl rfl rfl rfl rfl hb2 size49 (Nat.zero_le _) (by simp) ?_; intro w3 hb3 hg3 hs3; have HB3 := Aside0.mk (HB2.out.grown hg3 HB2.out.size (fun k hk => by injection hk with hk; rw [← hk, HG.out]; exact Nat.le_refl _)); clear hb3 hg3 hs3; have hp1 := (HB3.out.block gp hlp).trans hbp; have hq1 := (HB3.out.block gq hlq).trans hbq; have hp2 := blk_cell hp1 0; have hp3 := blk_frozen hp1 0; have hq2 := blk_cell hq1 0; have hq3 := blk_frozen hq1 0))
  simp [bodyPostS, results, Try.results29]
  exact ⟨w3, HB3.out, rfl⟩
theorem catch_panic (gp gq : Nat) (x y : Value) (older : List PanicEntry) (w : World) (hbp : w.heap[gp]? = some (.cells #[x] 22 (0, 0))) (hbq : w.heap[gq]? = some (.cells #[y] 25 (0, 0))) (hpq : gp ≠ gq) :
    CallsD Try.prog 29 #[.pointer (some ⟨gp, 0, none⟩), .pointer (some ⟨gq, 0, none⟩)] (.panicking ({ v := .iface 49 (.agg #[]), recovered := false } :: older)) w fun e u' w' => e = .returned (.tuple #[]) ∧ u' = .panicking ({ v := .iface 49 (.agg #[]), recovered := true } :: older) ∧ ∃ w3, Below w.heap.size w w3 ∧ w' = (w3.setCell ⟨gp, 0, none⟩ (.slice none 0 0)).setCell ⟨gq, 0, none⟩ (.int .i64 120) :=
  catch_gen _ gp gq x y older w hbp hbq hpq (fun _ => by kernel_rfl) (fun _ => by kernel_rfl) (fun _ => by kernel_rfl)
end Go.Proofs.Ytoeidpenpehlpaa.PB
end
section
set_option linter.unusedVariables false
set_option linter.unusedSimpArgs false
namespace Go.Proofs.Ytoeidpenpehlpaa.PB
open Go.RowKit Go.Proofs.YtoeidpenpehlpaaW.PrintWords Go.Proofs.YtoeidpenpehlpaaW.PrintLast Go.Proofs.YtoeidpenpehlpaaW.PrintMore
abbrev k8 : Kd Int := Kd.int .u8
theorem C_twin8 {w W' : World} {A : Option Addr} {n : Nat} {xs : List Int} (h : k8.C w A n xs) (hW : ∀ k, k < w.heap.size → W'.heap[k]? = w.heap[k]?) : k8.C W' A n xs := by
  have hs : w.heap.size ≤ W'.heap.size := by
    by_cases h0 : w.heap.size = 0
    · omega
    · have := heap_lt (hW (w.heap.size - 1) (by omega)) (by omega)
      omega
  have hB : Below w.heap.size w { W' with os := w.os, tape := w.tape, output := w.output } := ⟨rfl, rfl, rfl, hs, hW⟩
  have h2 := Kd.C_below h hB
  exact h2
theorem F_of_C8 {w : World} {A : Option Addr} {n : Nat} {xs : List Int} (h : k8.C w A n xs) : Kd.F k8 w (fun k => k < w.heap.size) A n xs :=
  fun _ hW => C_twin8 h (fun k hk => hW k hk hk)
theorem tn_none (A : Option Addr) (c : Nat) (b : List Int) (w : World) (hC : k8.C w A b.length b) (hc : b.length ≤ c) (hb : isB b) (hl : b.length < 140737488355328) (h : rdN b = none) :
    Calls Try.prog 40 #[.slice A b.length c] w fun e w' => ∃ v, e = .returned (.tuple #[.int .u64 0, v, .bool false]) ∧ Below w.heap.size w w' := by
  obtain ⟨k, hk⟩ := (take_ev b hb hl).rounds
  rw [h] at hk
  refine (code_TakeNum.calls k A c b 0 [] false w hC hc hk).mono ?_
  rintro e w' ⟨v, rfl, hR, hB⟩
  exact ⟨v, rfl, hB⟩
theorem tn_some (A : Option Addr) (c : Nat) (b : List Int) (w : World) (hC : k8.C w A b.length b) (hc : b.length ≤ c) (hb : isB b) (hl : b.length < 140737488355328) (n : Nat) (r : List Int) (h : rdN b = some (n, r)) :
    Calls Try.prog 40 #[.slice A b.length c] w fun e w' => ∃ A' c', e = .returned (.tuple #[.int .u64 n, .slice A' r.length c', .bool true]) ∧ k8.R 5 w' w.heap.size (fun _ => True) (.slice A' r.length c') r ∧ Below w.heap.size w w' := by
  obtain ⟨k, hk⟩ := (take_ev b hb hl).rounds
  rw [h] at hk
  refine (code_TakeNum.calls k A c b n r true w hC hc hk).mono ?_
  rintro e w' ⟨v, rfl, hR, hB⟩
  obtain ⟨A', c', rfl⟩ := Kd.R_slice hR
  exact ⟨A', c', rfl, hR, hB⟩
theorem tt_none (A : Option Addr) (c : Nat) (b : List Int) (most : Nat) (mi : Int) (hmi : mi = most) (w : World) (hC : k8.C w A b.length b) (hc : b.length ≤ c) (hb : isB b) (hl : b.length < 140737488355328) (hm : most < 2 ^ 62) (h : rdT (rdN b) most = none) :
    Calls Try.prog 41 #[.slice A b.length c, .int .i64 mi] w fun e w' => ∃ v, e = .returned (.tuple #[.string ⟨#[]⟩, v, .bool false]) ∧ Below w.heap.size w w' := by
  subst hmi
  obtain ⟨k, hk⟩ := (takeT_ev b hb hl most hm).rounds
  rw [h] at hk
  refine (code_TakeText.calls k A c b most ⟨#[]⟩ [] false w hC hc hk).mono ?_
  rintro e w' ⟨v, rfl, hR, hB⟩
  exact ⟨v, rfl, hB⟩
theorem tt_some (A : Option Addr) (c : Nat) (b : List Int) (most : Nat) (mi : Int) (hmi : mi = most) (w : World) (hC : k8.C w A b.length b) (hc : b.length ≤ c) (hb : isB b) (hl : b.length < 140737488355328) (hm : most < 2 ^ 62) (s : ByteArray) (r : List Int) (h : rdT (rdN b) most = some (s, r)) :
    Calls Try.prog 41 #[.slice A b.length c, .int .i64 mi] w fun e w' => ∃ A' c', e = .returned (.tuple #[.string s, .slice A' r.length c', .bool true]) ∧ k8.R 5 w' w.heap.size (fun _ => True) (.slice A' r.length c') r ∧ Below w.heap.size w w' := by
  subst hmi
  obtain ⟨k, hk⟩ := (takeT_ev b hb hl most hm).rounds
  rw [h] at hk
  refine (code_TakeText.calls k A c b most s r true w hC hc hk).mono ?_
  rintro e w' ⟨v, rfl, hR, hB⟩
  obtain ⟨A', c', rfl⟩ := Kd.R_slice hR
  exact ⟨A', c', rfl, hR, hB⟩
end Go.Proofs.Ytoeidpenpehlpaa.PB
end
section
set_option linter.unusedVariables false
set_option linter.unusedSimpArgs false
namespace Go.Proofs.Ytoeidpenpehlpaa.PB
open Go.RowKit Go.Proofs.YtoeidpenpehlpaaW.PrintWords Go.Proofs.YtoeidpenpehlpaaW.PrintLast Go.Proofs.YtoeidpenpehlpaaW.PrintMore
theorem F_one {w : World} {g n : Nat} {xs : List Int} (h : k8.C w (some ⟨g, 0, none⟩) n xs) : Kd.F k8 w (fun k => k = g) (some ⟨g, 0, none⟩) n xs := by
  intro W' hW
  obtain ⟨h1, h2, h3⟩ := h
  refine ⟨h1, h2, fun hn => ?_⟩
  obtain ⟨ad, he, hc⟩ := h3 hn
  refine ⟨ad, he, fun j p hj => ?_⟩
  obtain ⟨c, hl, hK, hcell⟩ := hc j p hj
  refine ⟨c, hl, hK, fun i u hu => ?_⟩
  have hcu := hcell i u hu
  have hb : (ad.add (j * k8.sz + i)).block = g := by
    injection he with he
    rw [← he]; unfold Addr.add; split <;> rfl
  have hlt := World.block_lt_of_cell? w _ hcu
  rw [← hcu]
  exact World.cell?_of_block (w := w) (hW _ hb hlt)
theorem bytes_event {P : Program} {ops : Array Oper} {rest : List Oper} {o : Oper} {a : Act} {Q : Exit → Act → World → Prop} {W : World} (hgd : o.guard = none) {s : ByteArray} {x : Operand} {src dst e : TypeId} {u : TypeDesc} (ho : o.op = .convert src dst x) (hx : a.eval x = .string s)
    (hs : P.underlying src = some u) (hd : P.underlying dst = some (.slice e)) (he : P.underlying e = some (.int .u8)) (hl : s.size ≤ 9223372036854775807)
    (h : ∀ g c w1, g = W.heap.size → k8.C w1 (some ⟨g, 0, none⟩) s.size (bytesOf s) → s.size ≤ c → Below W.heap.size W w1 → w1.heap.size = W.heap.size + 1 → wpList P ops Q rest (a.put o.dst (.slice (some ⟨g, 0, none⟩) s.size c)) w1) : wpList P ops Q (o :: rest) a W := by
  refine Kd.event_run (v := .slice (some ⟨W.heap.size, 0, none⟩) s.size (grownCap W s.size 0 e)) (w1 := Lib.bytesWorld W e s) hgd ?_ (h _ _ _ rfl (Kd.C_of_reads (bytes_reads W e s hl)) (grownCap_ge W s.size 0 e) (bytes_below (Below.refl _ _) (Nat.le_refl _) e s) (Lib.bytesWorld_size W e s))
  unfold execOp
  simp only [ho, hx]
  show ((convert src dst (.string s)) >>= _).run P W = _
  rw [Sem.run_bind, print_bytes src dst e hs hd he]
  rfl
theorem FK_val {W : World} {okp : Nat → Prop} (key val : ByteArray) (seq : Int) (g c : Nat) (hc : val.size ≤ c) (hF : Kd.F k8 W okp (some ⟨g, 0, none⟩) val.size (bytesOf val)) :
    Kd.FK k37 W okp ⟨key, seq, false, bytesOf val⟩ [.string key, .int .i64 seq, .bool false, .slice (some ⟨g, 0, none⟩) val.size c] := by
  have h := k37_mkF W okp (⟨key, seq, false, bytesOf val⟩ : S37) (A3 := some ⟨g, 0, none⟩) (c3 := c) (by show (bytesOf val).length ≤ c; rw [bytesOf_length]; exact hc) (by show Kd.F k8 W okp _ (bytesOf val).length (bytesOf val); rw [bytesOf_length]; exact hF)
  have e : (⟨key, seq, false, bytesOf val⟩ : S37).f3.length = val.size := bytesOf_length val
  rw [e] at h
  exact h
theorem val_ready {wy w5 : World} {base : Nat} {v : Value} {acc : List S37} {key val : ByteArray} {seq : Int} {g5 c5 : Nat} (u : Value) (hbase : base ≤ wy.heap.size) (HO : Kd.N k37 37 wy base (fun k => base ≤ k) v acc) (hB : Below wy.heap.size wy w5) (hg : wy.heap.size < g5)
    (hC : k8.C w5 (some ⟨g5, 0, none⟩) val.size (bytesOf val)) (hc : val.size ≤ c5) :
    Kd.N k37 37 (w5.setCell ⟨wy.heap.size, 3, none⟩ u) base (fun k => base ≤ k) v acc ∧ Kd.FK k37 (w5.setCell ⟨wy.heap.size, 3, none⟩ u) (fun k => k = g5) ⟨key, seq, false, bytesOf val⟩ [.string key, .int .i64 seq, .bool false, .slice (some ⟨g5, 0, none⟩) val.size c5] ∧ ∀ k, k = g5 → base ≤ k ∧ some k ≠ v.ownBlock := by
  refine ⟨Kd.N_below HO (hB.setCell (Nat.le_refl _) _), FK_val key val seq g5 c5 hc (Kd.F_step (F_one hC) (fun k hk _ => Below.heap_setCell w5 _ u k (by show k ≠ wy.heap.size; omega))), fun k hk => ⟨by omega, fun e => ?_⟩⟩
  have := Kd.N_lt HO k e.symm
  omega
theorem rest_ready {wy w5 : World} {b n c base : Nat} {A : Option Addr} {v : Value} {xs : List Int} {acc : List S37} (u : Value) (hR : k8.R 5 w5 b (fun _ => True) (.slice A n c) xs) (hb : wy.heap.size < b) {ok : Nat → Prop} (HO : Kd.N k37 37 wy base ok v acc) :
    k8.R 5 (w5.setCell ⟨wy.heap.size, 3, none⟩ u) b (fun k => True ∧ some k ≠ v.ownBlock) (.slice A n c) xs := by
  have h2 := Kd.R_mono (Kd.R_bound hR) (ok' := fun k => (True ∧ some k ≠ v.ownBlock) ∧ k ≠ wy.heap.size) (fun k hk => ⟨⟨trivial, fun e => by have := Kd.N_lt HO k e.symm; have := hk.2.1; omega⟩, by have := hk.2.1; omega⟩)
  exact Kd.R_mono (Kd.R_far h2 (p := ⟨wy.heap.size, 3, none⟩) (fun k hk => hk.2) u) (fun k hk => hk.1)
end Go.Proofs.Ytoeidpenpehlpaa.PB
end
section
set_option linter.unusedVariables false
set_option linter.unusedSimpArgs false
namespace Go.Proofs.Ytoeidpenpehlpaa.PB
open Go.RowKit Go.Proofs.YtoeidpenpehlpaaW.PrintWords Go.Proofs.YtoeidpenpehlpaaW.PrintLast Go.Proofs.YtoeidpenpehlpaaW.PrintMore
def entsOut (w w' : World) (e : Ending) : Option (List S37) → Prop
  | some l => ∃ v, e = .returned v ∧ Kd.N k37 37 w' w.heap.size (fun k => w.heap.size ≤ k) v l
  | none => e = .panicked wrongP
theorem endP {w w' : World} {a : Act} (hB : Below w.heap.size w w') (hd : a.defers = [] := by rfl) : bodyPost Try.prog Try.f31 (fun e w' => Below w.heap.size w w' ∧ entsOut w w' e none) (Exit.panic wrongP) a w' := by
  simp [bodyPost, entsOut, hd, hB]
set_option maxHeartbeats 8000000 in
set_option maxRecDepth 100000 in
theorem entries_c (A : Option Addr) (c : Nat) (b : List Int) (n : Nat) (w : World) (hC : k8.C w A b.length b) (hc : b.length ≤ c) (hb : isB b) (hl : b.length ≤ 65536) (hn : n ≤ 64) (r : Option (List S37)) (hr : entsG rdN zP n 0 b ⟨#[]⟩ [] = r) :
    Calls Try.prog 31 #[.slice A b.length c, .int .i64 n] w fun e w' => Below w.heap.size w w' ∧ entsOut w w' e r := by
  have HF := Aside0.mk (Kd.V_mk (e := 5) (base := w.heap.size) hc (F_of_C8 hC))
  have HR := Aside0.mk hr
  have HBB := Aside0.mk hb
  have HLB := Aside0.mk hl
  clear hr hb hl hC
  go_enter Try.func31, Try.ntmps31
  go_wp2
  go_loopg [0, 5, 6, 18] (n + 1) (fun kq v0 v5 v6 v18 w' => ∃ (i m : Nat) (key : ByteArray) (bb : List Int) (acc : List S37), v18 = .int .i64 i ∧ v6 = .string key ∧ Aside0 (m + i = n) ∧ Aside0 (m + 1 = kq) ∧ Aside0 (entsG rdN zP m i bb key acc = r) ∧ Aside0 (Kd.V k8 5 w' w.heap.size (fun k => some k ≠ v5.ownBlock) v0 bb) ∧ Aside0 (isB bb) ∧ Aside0 (bb.length ≤ 65536) ∧ Aside0 (key.size ≤ 64 * i) ∧ Aside0 (acc.length = i) ∧ Aside0 (Kd.N k37 37 w' w.heap.size (fun k => w.heap.size ≤ k) v5 acc) ∧ Aside0 (Below w.heap.size w w'))
  case atStart => exact ⟨0, n, ⟨#[]⟩, b, [], rfl, rfl, ⟨by omega⟩, ⟨by omega⟩, HR, ⟨Kd.V_mono HF.out (fun _ _ => by simp [Value.ownBlock])⟩, HBB, HLB, ⟨by simp [ByteArray.size]⟩, ⟨rfl⟩, ⟨Kd.N_nil _ _ _ _ _⟩, ⟨Below.refl _ _⟩⟩
  case round =>
    obtain ⟨i, m, key, bb, acc, rfl, rfl, HM, HK, HA, HV, HI, HL, HS, HAL, HO, HB⟩ := hrel
    clear HF HR HBB HLB
    obtain ⟨Ab, cb, rfl⟩ := Kd.V_slice HV.out
    obtain ⟨Ao, co, rfl⟩ := Kd.N_slice HO.out
    have ha := HA.out
    clear HA
    have hm := HM.out
    cases m with
    | zero =>
      have hlt : decide ((i : Int) < (n : Int)) = false := decide_eq_false (by omega)
      rw [entsG] at ha
      subst ha
      go_wp2
      go_ret
      exact ⟨HB.out, _, rfl, HO.out⟩
    | succ m =>
      have hlt : decide ((i : Int) < (n : Int)) = true := decide_eq_true (by omega)
      have hVr := Aside0.mk (Kd.V_at HV.out)
      rw [entsG] at ha
      cases h1 : rdN bb with
      | none =>
        have he : entG rdN (zP i) bb key = none := by unfold entG; rw [h1]
        rw [he] at ha
        subst ha
        have h1 := Aside0.mk h1
        go_wp2_with (first | (go_at_call 40; with_reducible refine (tn_none Ab cb bb _ (Kd.F_now hVr.out.2.2) hVr.out.2.1 HI.out (by have := HL.out; omega) h1.out).mono ?_; rintro e w1 ⟨v1, rfl, hB1⟩; have HB1 := Aside0.mk (below_step HB.out hB1); clear hB1) | (go_at_call 30; with_reducible refine (must_no _).mono ?_; rintro e w2 ⟨rfl, rfl⟩))
        exact endP HB1.out
      | some p =>
        obtain ⟨same, r1⟩ := p
        have htl := tk_tail bb 0 0 same r1 h1
        have h64 := rd_lt bb HI.out same r1 h1
        have HI1 := Aside0.mk (show isB r1 from by obtain ⟨q, hq, _⟩ := htl; exact isB_right (hq ▸ HI.out))
        have HL1 := Aside0.mk (show r1.length ≤ 65536 from by obtain ⟨q, hq, _⟩ := htl; have := HL.out; rw [hq, List.length_append] at this; omega)
        have hks := HS.out
        have hwk : IntKind.u64.wrap (key.size : Int) = (key.size : Int) := wraps_u64 _ (by omega) (by omega)
        by_cases hk : key.size < same
        · have he : entG rdN (zP i) bb key = none := by unfold entG; rw [h1]; dsimp only; rw [if_pos (.inl hk)]
          rw [he] at ha
          subst ha
          have h1 := Aside0.mk h1
          have hq1 : decide ((same : Int) ≤ IntKind.u64.wrap (key.size : Int)) = false := decide_eq_false (by rw [hwk]; omega)
          clear hwk htl h64
          go_wp2_with (first | (go_at_call 40; with_reducible refine (tn_some Ab cb bb _ (Kd.F_now hVr.out.2.2) hVr.out.2.1 HI.out (by have := HL.out; omega) _ _ h1.out).mono ?_; rintro e w1 ⟨A1, c1, rfl, hR1, hB1⟩; have HB1 := Aside0.mk (below_step HB.out hB1); clear hB1 hR1) | (go_at_call 30; with_reducible refine (must_no _).mono ?_; rintro e w2 ⟨rfl, rfl⟩))
          exact endP HB1.out
        · have hq1 : decide ((same : Int) ≤ IntKind.u64.wrap (key.size : Int)) = true := decide_eq_true (by rw [hwk]; omega)
          by_cases hz : zP i = true ∧ same ≠ 0
          · have he : entG rdN (zP i) bb key = none := by unfold entG; rw [h1]; dsimp only; rw [if_pos (.inr hz)]
            rw [he] at ha
            subst ha
            have h1 := Aside0.mk h1
            have hz1 : ((i : Int) % 8 != 0) = false := by
              have h8 : i % 8 = 0 := by simpa [zP] using hz.1
              simp; omega
            have hz2 : ((same : Int) == 0) = false := by simp; exact hz.2
            clear hwk htl h64 hz
            go_wp2_with (first | (go_at_call 40; with_reducible refine (tn_some Ab cb bb _ (Kd.F_now hVr.out.2.2) hVr.out.2.1 HI.out (by have := HL.out; omega) _ _ h1.out).mono ?_; rintro e w1 ⟨A1, c1, rfl, hR1, hB1⟩; have HB1 := Aside0.mk (below_step HB.out hB1); clear hB1 hR1) | (go_at_call 30; with_reducible refine (must_no _).mono ?_; rintro e w2 ⟨rfl, rfl⟩))
            exact endP HB1.out
          · have hcase : (((i : Int) % 8 != 0) = true) ∨ (((i : Int) % 8 != 0) = false ∧ ((same : Int) == 0) = true) := by
              by_cases h8 : i % 8 = 0
              · have h0 : same = 0 := by apply Classical.byContradiction; intro h; exact hz ⟨by simp [zP, h8], h⟩
                right; subst h0; constructor
                · simp; omega
                · rfl
              · left; simp; omega
            have hkz : ¬ (key.size < same ∨ (zP i = true ∧ same ≠ 0)) := fun h => h.elim hk hz
            clear hwk htl
            cases h2 : rdT (rdN r1) 64 with
            | none =>
              have he : entG rdN (zP i) bb key = none := by unfold entG; rw [h1]; dsimp only; rw [if_neg hkz, h2]
              rw [he] at ha
              subst ha
              have h1 := Aside0.mk h1
              have h2 := Aside0.mk h2
              rcases hcase with hz1 | ⟨hz1, hz2⟩
              all_goals
                go_wp2_with (first | (go_at_call 40; with_reducible refine (tn_some Ab cb bb _ (Kd.F_now hVr.out.2.2) hVr.out.2.1 HI.out (by have := HL.out; omega) _ _ h1.out).mono ?_; rintro e w1 ⟨A1, c1, rfl, hR1, hB1⟩; have HB1 := Aside0.mk (below_step HB.out hB1); have HO1 := Aside0.mk (Kd.N_below HO.out hB1); have HC1 := Aside0.mk (Kd.R_reads' hR1); clear hB1 hR1) | (go_at_call 41; with_reducible refine (tt_none A1 c1 r1 64 64 rfl _ HC1.out.2.2 HC1.out.2.1 HI1.out (by have := HL1.out; omega) (by decide) h2.out).mono ?_; rintro e w2 ⟨v2, rfl, hB2⟩; have HB2 := Aside0.mk (below_step HB1.out hB2); clear hB2) | (go_at_call 30; with_reducible refine (must_yes _).mono ?_; rintro e wy ⟨rfl, rfl⟩) | (go_at_call 30; with_reducible refine (must_no _).mono ?_; rintro e wn ⟨rfl, rfl⟩))
                exact endP HB2.out
            | some p2 =>
              obtain ⟨more, r2⟩ := p2
              obtain ⟨v1, q1, hv1, hv2, hv3, hv4, hv5⟩ := rdT_tail h2
              have hI2 : isB r2 := by obtain ⟨p, hp, _⟩ := tk_tail _ 0 0 v1 q1 hv1; rw [hv3]; exact isB_drop _ (isB_right (hp ▸ HI1.out))
              have HI2 := Aside0.mk hI2
              have HL2 := Aside0.mk (show r2.length ≤ 65536 from by obtain ⟨p, hp, _⟩ := tk_tail _ 0 0 v1 q1 hv1; have := HL1.out; rw [hp, List.length_append] at this; rw [hv3, List.length_drop]; omega)
              have HSM := Aside0.mk (show more.size ≤ 64 from by rw [hv2, strOfNums_size, List.length_take]; omega)
              clear hv1 hv2 hv3 hv4 hv5 hI2
              cases h3 : rdN r2 with
              | none =>
                have he : entG rdN (zP i) bb key = none := by unfold entG; rw [h1]; dsimp only; rw [if_neg hkz, h2]; dsimp only; rw [h3]
                rw [he] at ha
                subst ha
                have h1 := Aside0.mk h1
                have h2 := Aside0.mk h2
                have h3 := Aside0.mk h3
                rcases hcase with hz1 | ⟨hz1, hz2⟩
                all_goals
                  go_wp2_with (first | (go_at_call 40; with_reducible refine (tn_some Ab cb bb _ (Kd.F_now hVr.out.2.2) hVr.out.2.1 HI.out (by have := HL.out; omega) _ _ h1.out).mono ?_; rintro e w1 ⟨A1, c1, rfl, hR1, hB1⟩; have HB1 := Aside0.mk (below_step HB.out hB1); have HO1 := Aside0.mk (Kd.N_below HO.out hB1); have HC1 := Aside0.mk (Kd.R_reads' hR1); clear hB1 hR1) | (go_at_call 41; with_reducible refine (tt_some A1 c1 r1 64 64 rfl _ HC1.out.2.2 HC1.out.2.1 HI1.out (by have := HL1.out; omega) (by decide) _ _ h2.out).mono ?_; rintro e w2 ⟨A2, c2, rfl, hR2, hB2⟩; have HB2 := Aside0.mk (below_step HB1.out hB2); have HO2 := Aside0.mk (Kd.N_below HO1.out hB2); have HC2 := Aside0.mk (Kd.R_reads' hR2); clear hB2 hR2) | (go_at_call 40; with_reducible refine (tn_none A2 c2 r2 _ HC2.out.2.2 HC2.out.2.1 HI2.out (by have := HL2.out; omega) h3.out).mono ?_; rintro e w3 ⟨v3, rfl, hB3⟩; have HB3 := Aside0.mk (below_step HB2.out hB3); clear hB3) | (go_at_call 30; with_reducible refine (must_yes _).mono ?_; rintro e wy ⟨rfl, rfl⟩) | (go_at_call 30; with_reducible refine (must_no _).mono ?_; rintro e wn ⟨rfl, rfl⟩))
                  exact endP HB3.out
              | some p3 =>
                obtain ⟨seq, r3⟩ := p3
                have htl3 := tk_tail r2 0 0 seq r3 h3
                have h364 := rd_lt r2 HI2.out seq r3 h3
                have HI3 := Aside0.mk (show isB r3 from by obtain ⟨q, hq, _⟩ := htl3; exact isB_right (hq ▸ HI2.out))
                have HL3 := Aside0.mk (show r3.length ≤ 65536 from by obtain ⟨q, hq, _⟩ := htl3; have := HL2.out; rw [hq, List.length_append] at this; omega)
                by_cases hs : 2199023255553 < seq
                · have he : entG rdN (zP i) bb key = none := by unfold entG; rw [h1]; dsimp only; rw [if_neg hkz, h2]; dsimp only; rw [h3]; dsimp only; rw [if_pos hs]
                  rw [he] at ha
                  subst ha
                  have h1 := Aside0.mk h1
                  have h2 := Aside0.mk h2
                  have h3 := Aside0.mk h3
                  have hs1 : decide ((seq : Int) ≤ 2199023255553) = false := decide_eq_false (by omega)
                  clear htl3 h364
                  rcases hcase with hz1 | ⟨hz1, hz2⟩
                  all_goals
                    go_wp2_with (first | (go_at_call 40; with_reducible refine (tn_some Ab cb bb _ (Kd.F_now hVr.out.2.2) hVr.out.2.1 HI.out (by have := HL.out; omega) _ _ h1.out).mono ?_; rintro e w1 ⟨A1, c1, rfl, hR1, hB1⟩; have HB1 := Aside0.mk (below_step HB.out hB1); have HO1 := Aside0.mk (Kd.N_below HO.out hB1); have HC1 := Aside0.mk (Kd.R_reads' hR1); clear hB1 hR1) | (go_at_call 41; with_reducible refine (tt_some A1 c1 r1 64 64 rfl _ HC1.out.2.2 HC1.out.2.1 HI1.out (by have := HL1.out; omega) (by decide) _ _ h2.out).mono ?_; rintro e w2 ⟨A2, c2, rfl, hR2, hB2⟩; have HB2 := Aside0.mk (below_step HB1.out hB2); have HO2 := Aside0.mk (Kd.N_below HO1.out hB2); have HC2 := Aside0.mk (Kd.R_reads' hR2); clear hB2 hR2) | (go_at_call 40; with_reducible refine (tn_some A2 c2 r2 _ HC2.out.2.2 HC2.out.2.1 HI2.out (by have := HL2.out; omega) _ _ h3.out).mono ?_; rintro e w3 ⟨A3, c3, rfl, hR3, hB3⟩; have HB3 := Aside0.mk (below_step HB2.out hB3); have HO3 := Aside0.mk (Kd.N_below HO2.out hB3); have HR3 := Aside0.mk hR3; have HC3 := Aside0.mk (Kd.R_reads' hR3); clear hB3 hR3) | (go_at_call 30; with_reducible refine (must_yes _).mono ?_; rintro e wy ⟨rfl, rfl⟩) | (go_at_call 30; with_reducible refine (must_no _).mono ?_; rintro e wn ⟨rfl, rfl⟩))
                    exact endP HB3.out
                · have hs1 : decide ((seq : Int) ≤ 2199023255553) = true := decide_eq_true (by omega)
                  have hsm1 : decide ((same : Int) ≤ (key.size : Int)) = true := decide_eq_true (by omega)
                  have hsm2 : ((same : Int) ≤ (key.size : Int)) = True := eq_true (by omega)
                  have hsm3 : ((0 : Int) ≤ (same : Int)) = True := eq_true (by omega)
                  by_cases hodd : seq % 2 = 1
                  · have he : entG rdN (zP i) bb key = some (⟨key.extract 0 same ++ more, ((seq / 2 : Nat) : Int), true, []⟩, r3) := by unfold entG; rw [h1]; dsimp only; rw [if_neg hkz, h2]; dsimp only; rw [h3]; dsimp only; rw [if_neg hs, if_pos hodd]
                    rw [he] at ha
                    dsimp only at ha
                    rw [show ((seq / 2 : Nat) : Int) = (seq : Int) / 2 by omega] at ha
                    have HA := Aside0.mk ha
                    clear ha he
                    have h1 := Aside0.mk h1
                    have h2 := Aside0.mk h2
                    have h3 := Aside0.mk h3
                    have hod : ((seq : Int) % 2 == 1) = true := by simp; omega
                    have hkk : (key.extract 0 same ++ more).size ≤ 64 * (i + 1) := by rw [ByteArray.size_append, ByteArray.size_extract]; have := HSM.out; omega
                    have HKK := Aside0.mk hkk
                    clear htl3 h364 hkk
                    rcases hcase with hz1 | ⟨hz1, hz2⟩
                    all_goals
                      go_wp2_with (first | (go_at_call 40; with_reducible refine (tn_some Ab cb bb _ (Kd.F_now hVr.out.2.2) hVr.out.2.1 HI.out (by have := HL.out; omega) _ _ h1.out).mono ?_; rintro e w1 ⟨A1, c1, rfl, hR1, hB1⟩; have HB1 := Aside0.mk (below_step HB.out hB1); have HO1 := Aside0.mk (Kd.N_below HO.out hB1); have HC1 := Aside0.mk (Kd.R_reads' hR1); clear hB1 hR1) | (go_at_call 41; with_reducible refine (tt_some A1 c1 r1 64 64 rfl _ HC1.out.2.2 HC1.out.2.1 HI1.out (by have := HL1.out; omega) (by decide) _ _ h2.out).mono ?_; rintro e w2 ⟨A2, c2, rfl, hR2, hB2⟩; have HB2 := Aside0.mk (below_step HB1.out hB2); have HO2 := Aside0.mk (Kd.N_below HO1.out hB2); have HC2 := Aside0.mk (Kd.R_reads' hR2); clear hB2 hR2) | (go_at_call 40; with_reducible refine (tn_some A2 c2 r2 _ HC2.out.2.2 HC2.out.2.1 HI2.out (by have := HL2.out; omega) _ _ h3.out).mono ?_; rintro e w3 ⟨A3, c3, rfl, hR3, hB3⟩; have HB3 := Aside0.mk (below_step HB2.out hB3); have HO3 := Aside0.mk (Kd.N_below HO2.out hB3); have HR3 := Aside0.mk hR3; have HC3 := Aside0.mk (Kd.R_reads' hR3); clear hB3 hR3) | (go_at_call 30; with_reducible refine (must_yes _).mono ?_; rintro e wy ⟨rfl, rfl⟩) | (go_at_call 30; with_reducible refine (must_no _).mono ?_; rintro e wn ⟨rfl, rfl⟩) | ((with_reducible refine gate_builtin (b := .append) (xs := #[.tmp 95, .tmp 97]) rfl ?_); at_builtin; go_must (refine Kd.N_append k37 (w0 := w) (W := wy.alloc (.cells #[.string (key.extract 0 same ++ more), .int .i64 ((seq : Int) / 2), .bool true, .slice none 0 0] 37)) w.heap.size rfl (.tmp 95) (.tmp 97) 22 37 (.agg #[(.string ⟨#[]⟩), (.int .i64 0), (.bool false), (.slice none 0 0)]) 56 rfl Try.underlying22 info37 rfl (by decide) (by decide) (.slice Ao acc.length co) acc (⟨key.extract 0 same ++ more, (seq : Int) / 2, true, []⟩ : S37) [.string (key.extract 0 same ++ more), .int .i64 ((seq : Int) / 2), .bool true, .slice none 0 0] (fun k => w.heap.size ≤ k) (fun k => w.heap.size ≤ k ∧ some k ≠ (Value.slice Ao acc.length co).ownBlock) rfl (by first | rfl | (simp; rfl) | simp) ?aP (fun _ hk => hk) (fun k hk => by have := HB3.out.size; simp at hk; omega) (Kd.N_alloc HO3.out _) (below_alloc HB3.out _) (by have := HB3.out.size; simp; omega) (by have := HAL.out; omega) ?_); (case aP => exact k37_mkF _ _ (⟨key.extract 0 same ++ more, (seq : Int) / 2, true, []⟩ : S37) (Nat.le_refl _) (Kd.F_nil _ _ _)); intro v9 w9 ho hb hg hat; have HO9 := Aside0.mk ho; have HB9 := Aside0.mk hb; have HV9 := Aside0.mk (Kd.R_after (ok := fun _ => True) (Kd.R_alloc (Kd.R_mono (Kd.R_bound HR3.out) (fun k hk => ⟨trivial, fun e => absurd (Kd.N_lt HO2.out k e.symm) (by have := hk.2.1; omega)⟩)) _) hg hat); clear ho hb hg hat))
                      · exfalso; have hh1 := HSM.out; have hh2 := HS.out; omega
                      obtain rfl : gk = m + 1 + 1 := by have := HK.out; omega
                      go_roundg (m + 1)
                      case measure => omega
                      case rel => exact ⟨i + 1, m, _, r3, _, by simp, rfl, ⟨by omega⟩, ⟨rfl⟩, HA, ⟨Kd.V_mono (Kd.R_V HV9.out) (fun _ hk => hk.2)⟩, HI3, HL3, HKK, ⟨by have := HAL.out; simp; omega⟩, HO9, HB9⟩
                  · have hod : ((seq : Int) % 2 == 1) = false := by simp; omega
                    cases h4 : rdT (rdN r3) 256 with
                    | none =>
                      have he : entG rdN (zP i) bb key = none := by unfold entG; rw [h1]; dsimp only; rw [if_neg hkz, h2]; dsimp only; rw [h3]; dsimp only; rw [if_neg hs, if_neg hodd, h4]
                      rw [he] at ha
                      subst ha
                      have h1 := Aside0.mk h1
                      have h2 := Aside0.mk h2
                      have h3 := Aside0.mk h3
                      have h4 := Aside0.mk h4
                      clear htl3 h364
                      rcases hcase with hz1 | ⟨hz1, hz2⟩
                      all_goals
                        go_wp2_with (first | (go_at_call 40; with_reducible refine (tn_some Ab cb bb _ (Kd.F_now hVr.out.2.2) hVr.out.2.1 HI.out (by have := HL.out; omega) _ _ h1.out).mono ?_; rintro e w1 ⟨A1, c1, rfl, hR1, hB1⟩; have HB1 := Aside0.mk (below_step HB.out hB1); have HO1 := Aside0.mk (Kd.N_below HO.out hB1); have HC1 := Aside0.mk (Kd.R_reads' hR1); clear hB1 hR1) | (go_at_call 41; with_reducible refine (tt_some A1 c1 r1 64 64 rfl _ HC1.out.2.2 HC1.out.2.1 HI1.out (by have := HL1.out; omega) (by decide) _ _ h2.out).mono ?_; rintro e w2 ⟨A2, c2, rfl, hR2, hB2⟩; have HB2 := Aside0.mk (below_step HB1.out hB2); have HO2 := Aside0.mk (Kd.N_below HO1.out hB2); have HC2 := Aside0.mk (Kd.R_reads' hR2); clear hB2 hR2) | (go_at_call 40; with_reducible refine (tn_some A2 c2 r2 _ HC2.out.2.2 HC2.out.2.1 HI2.out (by have := HL2.out; omega) _ _ h3.out).mono ?_; rintro e w3 ⟨A3, c3, rfl, hR3, hB3⟩; have HB3 := Aside0.mk (below_step HB2.out hB3); have HO3 := Aside0.mk (Kd.N_below HO2.out hB3); have HR3 := Aside0.mk hR3; have HC3 := Aside0.mk (Kd.R_reads' hR3); clear hB3 hR3) | (go_at_call 41; with_reducible refine (tt_none A3 c3 r3 256 256 rfl _ (Kd.C_alloc HC3.out.2.2 _) HC3.out.2.1 HI3.out (by have := HL3.out; omega) (by decide) h4.out).mono ?_; rintro e w4 ⟨v4, rfl, hB4⟩; have HB4 := Aside0.mk (below_step (below_alloc HB3.out _) hB4); clear hB4) | (go_at_call 30; with_reducible refine (must_yes _).mono ?_; rintro e wy ⟨rfl, rfl⟩) | (go_at_call 30; with_reducible refine (must_no _).mono ?_; rintro e wn ⟨rfl, rfl⟩))
                        · exfalso; have hh1 := HSM.out; have hh2 := HS.out; omega
                        exact endP HB4.out
                    | some p4 =>
                      obtain ⟨val, r4⟩ := p4
                      have he : entG rdN (zP i) bb key = some (⟨key.extract 0 same ++ more, ((seq / 2 : Nat) : Int), false, bytesOf val⟩, r4) := by unfold entG; rw [h1]; dsimp only; rw [if_neg hkz, h2]; dsimp only; rw [h3]; dsimp only; rw [if_neg hs, if_neg hodd, h4]
                      rw [he] at ha
                      dsimp only at ha
                      rw [show ((seq / 2 : Nat) : Int) = (seq : Int) / 2 by omega] at ha
                      have HA := Aside0.mk ha
                      clear ha he
                      have h1 := Aside0.mk h1
                      have h2 := Aside0.mk h2
                      have h3 := Aside0.mk h3
                      have h4 := Aside0.mk h4
                      have hkk : (key.extract 0 same ++ more).size ≤ 64 * (i + 1) := by rw [ByteArray.size_append, ByteArray.size_extract]; have := HSM.out; omega
                      have HKK := Aside0.mk hkk
                      obtain ⟨v2_, q2_, hv1_, hv2_, hv3_, hv4_, hv5_⟩ := rdT_tail h4.out
                      have HVS := Aside0.mk (show val.size ≤ 256 from by rw [hv2_, strOfNums_size, List.length_take]; omega)
                      have HI4 := Aside0.mk (show isB r4 from by obtain ⟨p, hp, _⟩ := tk_tail _ 0 0 v2_ q2_ hv1_; rw [hv3_]; exact isB_drop _ (isB_right (hp ▸ HI3.out)))
                      have HL4 := Aside0.mk (show r4.length ≤ 65536 from by obtain ⟨p, hp, _⟩ := tk_tail _ 0 0 v2_ q2_ hv1_; have := HL3.out; rw [hp, List.length_append] at this; rw [hv3_, List.length_drop]; omega)
                      clear hv1_ hv2_ hv3_ hv4_ hv5_
                      clear htl3 h364 hkk
                      rcases hcase with hz1 | ⟨hz1, hz2⟩
                      all_goals
                        go_wp2_with (first | (go_at_call 40; with_reducible refine (tn_some Ab cb bb _ (Kd.F_now hVr.out.2.2) hVr.out.2.1 HI.out (by have := HL.out; omega) _ _ h1.out).mono ?_; rintro e w1 ⟨A1, c1, rfl, hR1, hB1⟩; have HB1 := Aside0.mk (below_step HB.out hB1); have HO1 := Aside0.mk (Kd.N_below HO.out hB1); have HC1 := Aside0.mk (Kd.R_reads' hR1); clear hB1 hR1) | (go_at_call 41; with_reducible refine (tt_some A1 c1 r1 64 64 rfl _ HC1.out.2.2 HC1.out.2.1 HI1.out (by have := HL1.out; omega) (by decide) _ _ h2.out).mono ?_; rintro e w2 ⟨A2, c2, rfl, hR2, hB2⟩; have HB2 := Aside0.mk (below_step HB1.out hB2); have HO2 := Aside0.mk (Kd.N_below HO1.out hB2); have HC2 := Aside0.mk (Kd.R_reads' hR2); clear hB2 hR2) | (go_at_call 40; with_reducible refine (tn_some A2 c2 r2 _ HC2.out.2.2 HC2.out.2.1 HI2.out (by have := HL2.out; omega) _ _ h3.out).mono ?_; rintro e w3 ⟨A3, c3, rfl, hR3, hB3⟩; have HB3 := Aside0.mk (below_step HB2.out hB3); have HO3 := Aside0.mk (Kd.N_below HO2.out hB3); have HR3 := Aside0.mk hR3; have HC3 := Aside0.mk (Kd.R_reads' hR3); clear hB3 hR3) | (go_at_call 41; with_reducible refine (tt_some A3 c3 r3 256 256 rfl _ (Kd.C_alloc HC3.out.2.2 _) HC3.out.2.1 HI3.out (by have := HL3.out; omega) (by decide) _ _ h4.out).mono ?_; rintro e w4 ⟨A4, c4, rfl, hR4, hB4⟩; have HB4 := Aside0.mk (below_step (below_alloc HB3.out _) hB4); have HO4 := Aside0.mk (Kd.N_below (Kd.N_alloc HO3.out _) hB4); have HR4 := Aside0.mk hR4; have HG4 := Aside0.mk ((hB4.block _ (by simp)).trans (blk_new wy _)); have HY4 := Aside0.mk (below_step (below_alloc (Below.refl _ _) _) hB4); have HL4B := Aside0.mk (show wy.heap.size < w4.heap.size from Nat.lt_of_lt_of_le (Nat.lt_succ_self wy.heap.size) (by have := hB4.size; simpa using this)); clear hB4 hR4) | ((with_reducible refine gate_dst (N := 89) rfl ?_); refine bytes_event rfl rfl rfl Try.underlying9 Try.underlying24 Try.underlying5 (by have := HVS.out; omega) ?_; intro g5 c5 w5 hg5 hC5 hc5 hB5 hs5; have HG5 := Aside0.mk hg5; have HC5 := Aside0.mk hC5; have Hc5 := Aside0.mk hc5; have HB5 := Aside0.mk (below_step HB4.out hB5); have HY5 := Aside0.mk (below_step HY4.out hB5); have HR5 := Aside0.mk (Kd.R_below HR4.out hB5); have hgt := (hB5.block _ (by have := HG4.out; have := (Array.getElem?_eq_some_iff.1 this).1; exact this)).trans HG4.out; have hct0 : w5.cell? ⟨_, 0, none⟩ = some (.string (key.extract 0 same ++ more)) := (blk_cell hgt 0).trans rfl; have hct1 : w5.cell? ⟨_, 1, none⟩ = some (.int .i64 ((seq : Int) / 2)) := (blk_cell hgt 1).trans rfl; have hct2 : w5.cell? ⟨_, 2, none⟩ = some (.bool false) := (blk_cell hgt 2).trans rfl; have hct3 : w5.cell? ⟨_, 3, none⟩ = some (.slice none 0 0) := (blk_cell hgt 3).trans rfl; have hcf := blk_frozen hgt 3; have HGT := Aside0.mk hgt; have HLT := Aside0.mk (Nat.lt_of_lt_of_le HL4B.out (Nat.le_of_eq HG5.out.symm)); clear hg5 hC5 hc5 hB5 hs5 hgt) | (go_at_call 30; with_reducible refine (must_yes _).mono ?_; rintro e wy ⟨rfl, rfl⟩) | (go_at_call 30; with_reducible refine (must_no _).mono ?_; rintro e wn ⟨rfl, rfl⟩) | ((with_reducible refine gate_builtin (b := .append) (xs := #[.tmp 95, .tmp 97]) rfl ?_); at_builtin; have HVR := Aside0.mk (val_ready (.slice (some ⟨g5, 0, none⟩) val.size c5) (key := key.extract 0 same ++ more) (seq := (seq : Int) / 2) HB3.out.size HO3.out HY5.out HLT.out HC5.out Hc5.out); have HRR := Aside0.mk (rest_ready (.slice (some ⟨g5, 0, none⟩) val.size c5) HR5.out (by simp) HO3.out); have HBV := Aside0.mk (HB5.out.setCell (p := ⟨_, 3, none⟩) (HB3.out.size) (.slice (some ⟨g5, 0, none⟩) val.size c5)); go_must (refine Kd.N_append k37 (w0 := w) (W := _) w.heap.size rfl (.tmp 95) (.tmp 97) 22 37 (.agg #[(.string ⟨#[]⟩), (.int .i64 0), (.bool false), (.slice none 0 0)]) 56 rfl Try.underlying22 info37 rfl (by decide) (by decide) (.slice Ao acc.length co) acc (⟨key.extract 0 same ++ more, (seq : Int) / 2, false, bytesOf val⟩ : S37) [.string (key.extract 0 same ++ more), .int .i64 ((seq : Int) / 2), .bool false, .slice (some ⟨g5, 0, none⟩) val.size c5] (fun k => w.heap.size ≤ k) (fun k => k = g5) rfl (by first | rfl | (simp; rfl) | simp) HVR.out.2.1 HVR.out.2.2 (fun k hk => Nat.le_trans HBV.out.size hk) HVR.out.1 HBV.out HBV.out.size (by have := HAL.out; omega) ?_); intro v9 w9 ho hb hg hat; have HO9 := Aside0.mk ho; have HB9 := Aside0.mk hb; have HV9 := Aside0.mk (Kd.R_after (ok := fun _ => True) HRR.out hg hat); clear ho hb hg hat))
                        · exfalso; have hh1 := HSM.out; have hh2 := HS.out; omega
                        obtain rfl : gk = m + 1 + 1 := by have := HK.out; omega
                        go_roundg (m + 1)
                        case measure => omega
                        case rel => exact ⟨i + 1, m, _, r4, _, by simp, rfl, ⟨by omega⟩, ⟨rfl⟩, HA, ⟨Kd.V_mono (Kd.R_V HV9.out) (fun _ hk => hk.2)⟩, HI4, HL4, HKK, ⟨by have := HAL.out; simp; omega⟩, HO9, HB9⟩
end Go.Proofs.Ytoeidpenpehlpaa.PB
end
section
set_option linter.unusedVariables false
set_option linter.unusedSimpArgs false
namespace Go.Proofs.Ytoeidpenpehlpaa.PB
open Go.RowKit Go.Proofs.YtoeidpenpehlpaaW.PrintWords Go.Proofs.YtoeidpenpehlpaaW.PrintLast Go.Proofs.YtoeidpenpehlpaaW.PrintMore
def decOut (w w' : World) (e : Ending) : Option (List S37) → Prop
  | some l => ∃ A c, e = .returned (.tuple #[.slice A l.length c, .int .i64 0]) ∧ l.length ≤ c ∧ Kd.C k37 w' A l.length l ∧ (0 < l.length → ∃ g, A = some ⟨g, 0, none⟩)
  | none => e = .returned (.tuple #[.slice none 0 0, .int .i64 120])
theorem N_head {w : World} {base n c : Nat} {ok : Nat → Prop} {A : Option Addr} {l : List S37} (h : Kd.N k37 37 w base ok (.slice A n c) l) : 0 < l.length → ∃ g, A = some ⟨g, 0, none⟩ := fun hp => by
  obtain ⟨g, cap, he, _⟩ := Kd.N_form h hp
  injection he with he
  exact ⟨g, he⟩
theorem results13 {W : World} {tm : Array Value} {g q : Nat} {x y : Value} (h2 : tm.getD 2 undef = .pointer (some ⟨g, 0, none⟩)) (h3 : tm.getD 3 undef = .pointer (some ⟨q, 0, none⟩)) (hx : W.cell? ⟨g, 0, none⟩ = some x) (hy : W.cell? ⟨q, 0, none⟩ = some y) :
    (results Try.f13 tm).run Try.prog W = .ok (.tuple #[x, y]) W := by
  simp at h2 h3
  simp [results, Try.results13, h2, h3, go_sem, hx, hy]
def two29 (g q : Nat) : List Deferred := [{ target := .fn (Fn.func 29) #[.pointer (some ⟨g, 0, none⟩), .pointer (some ⟨q, 0, none⟩)], args := #[] }]
theorem door_panic {w W : World} {tm : Array Value} {g q : Nat} {x y : Value} (h2 : tm.getD 2 undef = .pointer (some ⟨g, 0, none⟩)) (h3 : tm.getD 3 undef = .pointer (some ⟨q, 0, none⟩))
    (hg : w.heap.size ≤ g) (hq : w.heap.size ≤ q) (hne : g ≠ q) (hbg : W.heap[g]? = some (.cells #[x] 22 (0, 0))) (hbq : W.heap[q]? = some (.cells #[y] 25 (0, 0))) (hB : Below w.heap.size w W) :
    bodyPostD Try.prog Try.f13 (fun e w' => Below w.heap.size w w' ∧ decOut w w' e none) (Exit.panic wrongP) { tmps := tm, defers := two29 g q } W := by
  refine leaves_cons (f := 29) (args := #[.pointer (some ⟨g, 0, none⟩), .pointer (some ⟨q, 0, none⟩)]) (by simp) (by simp [go_sem]) ?_
  refine (catch_panic g q x y [] W hbg hbq hne).mono ?_
  rintro e u' w'' ⟨rfl, rfl, w3, hB3, rfl⟩
  have hlg : g < W.heap.size := (Array.getElem?_eq_some_iff.1 hbg).1
  have hlq : q < W.heap.size := (Array.getElem?_eq_some_iff.1 hbq).1
  have hbg3 := (hB3.block g hlg).trans hbg
  have hbq3 := (hB3.block q hlq).trans hbq
  have cg := blk_cell hbg3 0
  have cq := blk_cell hbq3 0
  have fg := blk_frozen hbg3 0
  have fq := blk_frozen hbq3 0
  refine ⟨_, results13 h2 h3 (x := .slice none 0 0) (y := .int .i64 120) ?_ ?_, ?_, rfl⟩
  · simp [go_sem, cg, cq, fg, fq, hne]
  · simp [go_sem, cg, cq, fg, fq, hne, Ne.symm hne]
  · exact ((below_step hB hB3).setCell hg _).setCell hq _
theorem door_ret {w W : World} {tm : Array Value} {g q : Nat} {A : Option Addr} {n c : Nat} {l : List S37} (h2 : tm.getD 2 undef = .pointer (some ⟨g, 0, none⟩)) (h3 : tm.getD 3 undef = .pointer (some ⟨q, 0, none⟩))
    (hcg : W.cell? ⟨g, 0, none⟩ = some (.slice A l.length c)) (hcq : W.cell? ⟨q, 0, none⟩ = some (.int .i64 0)) (hB : Below w.heap.size w W) (hc : l.length ≤ c) (hC : Kd.C k37 W A l.length l) (hz : 0 < l.length → ∃ g, A = some ⟨g, 0, none⟩) :
    bodyPostD Try.prog Try.f13 (fun e w' => Below w.heap.size w w' ∧ decOut w w' e (some l)) Exit.ret { tmps := tm, defers := two29 g q } W := by
  refine leaves_cons (f := 29) (args := #[.pointer (some ⟨g, 0, none⟩), .pointer (some ⟨q, 0, none⟩)]) (by simp) (by simp [go_sem]) ?_
  refine (catch_idle ⟨g, 0, none⟩ ⟨q, 0, none⟩ W).mono ?_
  rintro e u' w'' ⟨rfl, rfl, rfl⟩
  exact ⟨_, results13 h2 h3 hcg hcq, hB, A, c, rfl, hc, hC, hz⟩
theorem ents_no (A : Option Addr) (c m : Nat) (yi : Int) (b : List Int) (n : Nat) (w : World) (hm : b.length = m) (hy : yi = n) (hC : k8.C w A b.length b) (hc : b.length ≤ c) (hb : isB b) (hl : b.length ≤ 65536) (hn : n ≤ 64) (h : entsG rdN zP n 0 b ⟨#[]⟩ [] = none) :
    Calls Try.prog 31 #[.slice A m c, .int .i64 yi] w fun e w' => e = .panicked wrongP ∧ Below w.heap.size w w' := by
  subst hm hy
  exact (entries_c A c b n w hC hc hb hl hn _ h).mono fun e w' ⟨h1, h2⟩ => ⟨h2, h1⟩
theorem ents_yes (A : Option Addr) (c m : Nat) (yi : Int) (b : List Int) (n : Nat) (w : World) (hm : b.length = m) (hy : yi = n) (hC : k8.C w A b.length b) (hc : b.length ≤ c) (hb : isB b) (hl : b.length ≤ 65536) (hn : n ≤ 64) (l : List S37) (h : entsG rdN zP n 0 b ⟨#[]⟩ [] = some l) :
    Calls Try.prog 31 #[.slice A m c, .int .i64 yi] w fun e w' => ∃ A' c', e = .returned (.slice A' l.length c') ∧ Kd.N k37 37 w' w.heap.size (fun k => w.heap.size ≤ k) (.slice A' l.length c') l ∧ Below w.heap.size w w' := by
  subst hm hy
  refine (entries_c A c b n w hC hc hb hl hn _ h).mono ?_
  rintro e w' ⟨h1, v, rfl, h3⟩
  obtain ⟨A', c', rfl⟩ := Kd.N_slice h3
  exact ⟨A', c', rfl, h3, h1⟩
theorem enc_yes (A : Option Addr) (c : Nat) (l : List S37) (w : World) (hC : Kd.C k37 w A l.length l) (hc : l.length ≤ c) (hf : fineL l = true) :
    Calls Try.prog 9 #[.slice A l.length c] w fun e w' => ∃ A' c', e = .returned (.tuple #[.slice A' (encB l).length c', .int .i64 0]) ∧ k8.C w' A' (encB l).length (encB l) ∧ Below w.heap.size w w' := by
  obtain ⟨k, hk⟩ := (enc_ev l hC.2.1).rounds
  rw [show encR l = (encB l, 0) from if_pos hf] at hk
  refine (block_Encode.calls k A c l _ _ w hC hc hk).mono ?_
  rintro e w' ⟨v, rfl, hR, hB⟩
  obtain ⟨A', c', rfl⟩ := Kd.R_slice hR
  exact ⟨A', c', rfl, (Kd.R_reads' hR).2.2, hB⟩
theorem enc_no (A : Option Addr) (c : Nat) (l : List S37) (w : World) (hC : Kd.C k37 w A l.length l) (hc : l.length ≤ c) (hf : ¬ fineL l = true) :
    Calls Try.prog 9 #[.slice A l.length c] w fun e w' => ∃ v, e = .returned (.tuple #[v, .int .i64 120]) ∧ Below w.heap.size w w' := by
  obtain ⟨k, hk⟩ := (enc_ev l hC.2.1).rounds
  rw [show encR l = ([], 120) from if_neg hf] at hk
  refine (block_Encode.calls k A c l _ _ w hC hc hk).mono ?_
  rintro e w' ⟨v, rfl, hR, hB⟩
  exact ⟨v, rfl, hB⟩
set_option maxHeartbeats 4000000 in
set_option maxRecDepth 100000 in
theorem decode_c (A : Option Addr) (c : Nat) (b : List Int) (w : World) (hC : k8.C w A b.length b) (hc : b.length ≤ c) (hb : isB b) (hl : b.length ≤ 65536) (r : Option (List S37)) (hr : decP b = r) :
    Calls Try.prog 13 #[.slice A b.length c] w fun e w' => Below w.heap.size w w' ∧ decOut w w' e r := by
  have hmf : ∀ (fn : Fn) (first cap : Array Value) (w : World), (Instr.makeFunc fn first cap).run Try.prog w = .ok (.func fn first cap) w := fun _ _ _ _ => rfl
  have HBA := Aside0.mk (below_alloc (below_alloc (Below.refl w.heap.size w) (.cells #[.slice none 0 0] 22)) (.cells #[.int .i64 0] 25))
  have HGA := Aside0.mk (show ((w.alloc (.cells #[.slice none 0 0] 22)).alloc (.cells #[.int .i64 0] 25)).heap[w.heap.size]? = some (.cells #[.slice none 0 0] 22 (0, 0)) from ((below_alloc (Below.refl _ (w.alloc (.cells #[.slice none 0 0] 22))) (.cells #[.int .i64 0] 25)).block w.heap.size (by simp)).trans (blk_new w _))
  have HQA := Aside0.mk (show ((w.alloc (.cells #[.slice none 0 0] 22)).alloc (.cells #[.int .i64 0] 25)).heap[w.heap.size + 1]? = some (.cells #[.int .i64 0] 25 (0, 0)) from by have h := blk_new (w.alloc (.cells #[.slice none 0 0] 22)) (.cells #[.int .i64 0] 25); rwa [show (w.alloc (.cells #[.slice none 0 0] 22)).heap.size = w.heap.size + 1 from by simp] at h)
  have HCA := Aside0.mk (Kd.C_alloc (Kd.C_alloc hC (.cells #[.slice none 0 0] 22)) (.cells #[.int .i64 0] 25))
  by_cases h0 : b.length = 0
  · have ht : decide ((0 : Int) < (b.length : Int)) = false := decide_eq_false (by omega)
    have : r = none := by rw [← hr]; unfold decP; rw [if_pos h0]
    subst this
    have h0 := Aside0.mk h0
    go_enter_defers Try.func13, Try.ntmps13
    go_wp2_with (first | (go_at_call 30; with_reducible refine (must_no _).mono ?_; rintro e w2 ⟨rfl, rfl⟩))
    exact door_panic rfl rfl (by omega) (by omega) (by omega) HGA.out HQA.out HBA.out
  · have ht : decide (0 < b.length) = true := decide_eq_true (by omega)
    have hlast : 0 ≤ b.getD (b.length - 1) 0 ∧ b.getD (b.length - 1) 0 < 256 := by
      rw [List.getD_eq_getElem?_getD, List.getElem?_eq_getElem (by omega)]
      exact hb _ (List.getElem_mem _)
    have HC8 := hC
    obtain ⟨ad, cc, rfl, _, hK, hcc⟩ := Kd.C_get HCA.out 0 ((b.length : Int) - 1) (by omega) (by omega)
    obtain rfl : cc = [.int .u8 (b.getD (b.length - 1) 0)] := by
      have : ((b.length : Int) - 1).toNat = b.length - 1 := by omega
      rw [this] at hK; exact hK
    have hcell0 := hcc 0 _ rfl
    have hcell : ((w.alloc (.cells #[.slice none 0 0] 22)).alloc (.cells #[.int .i64 0] 25)).cell? (ad.add (b.length - 1)) = some (.int .u8 (b.getD (b.length - 1) 0)) := by
      have h2 : (((b.length : Int) - 1).toNat * (Kd.int .u8).sz + 0) = b.length - 1 := by show (((b.length : Int) - 1).toNat * 1 + 0) = b.length - 1; omega
      rw [h2] at hcell0; exact hcell0
    have hn : lastN b = (b.getD (b.length - 1) 0).toNat := rfl
    generalize b.getD (b.length - 1) 0 = y at hcell hlast hn
    clear hcc hK hcell0
    obtain ⟨hy0, hy1⟩ := hlast
    obtain ⟨yn, rfl⟩ := Int.eq_ofNat_of_zero_le hy0
    have hn : lastN b = yn := by rw [hn]; omega
    have h1l : 1 ≤ b.length := by omega
    clear hC hy0
    have HC8 := Aside0.mk HC8
    have HB := Aside0.mk hb
    have HL := Aside0.mk hl
    clear hb
    unfold decP at hr
    rw [if_neg h0, hn] at hr
    clear h0 hn
    by_cases hy2 : yn < 1
    · rw [if_neg (by omega)] at hr
      subst hr
      have ht2 : decide (1 ≤ yn) = false := decide_eq_false (by omega)
      go_enter_defers Try.func13, Try.ntmps13
      go_wp2_with (first | (go_at_call 30; with_reducible refine (must_yes _).mono ?_; rintro e w2 ⟨rfl, rfl⟩) | (go_at_call 30; with_reducible refine (must_no _).mono ?_; rintro e w2 ⟨rfl, rfl⟩))
      exact door_panic rfl rfl (by omega) (by omega) (by omega) HGA.out HQA.out HBA.out
    · have ht2 : decide (1 ≤ yn) = true := decide_eq_true (by omega)
      by_cases hy3 : 64 < yn
      · rw [if_neg (by omega)] at hr
        subst hr
        have ht3 : decide ((yn : Int) ≤ 64) = false := decide_eq_false (by omega)
        go_enter_defers Try.func13, Try.ntmps13
        go_wp2_with (first | (go_at_call 30; with_reducible refine (must_yes _).mono ?_; rintro e w2 ⟨rfl, rfl⟩) | (go_at_call 30; with_reducible refine (must_no _).mono ?_; rintro e w2 ⟨rfl, rfl⟩))
        exact door_panic rfl rfl (by omega) (by omega) (by omega) HGA.out HQA.out HBA.out
      · have ht3 : decide ((yn : Int) ≤ 64) = true := decide_eq_true (by omega)
        rw [if_pos (by omega)] at hr
        have HCT := Aside0.mk (Kd.C_take HCA.out (m := b.length - 1) (by omega))
        cases he : entsG rdN zP yn 0 (b.take (b.length - 1)) ⟨#[]⟩ [] with
        | none =>
          rw [he] at hr
          subst hr
          have he := Aside0.mk he
          go_enter_defers Try.func13, Try.ntmps13
          go_wp2_with (first | (go_at_call 30; with_reducible refine (must_yes _).mono ?_; rintro e w2 ⟨rfl, rfl⟩) | (go_at_call 31; with_reducible refine (ents_no (some ad) c _ _ (b.take (b.length - 1)) yn _ (by simp) rfl HCT.out (by simp; omega) (isB_take _ HB.out) (by simp; have := HL.out; omega) (by omega) he.out).mono ?_; rintro e w3 ⟨rfl, hB3⟩; have HB3 := Aside0.mk hB3; clear hB3))
          exact door_panic rfl rfl (by omega) (by omega) (by omega) (blk_below HGA.out HB3.out) (blk_below HQA.out HB3.out) (below_step HBA.out HB3.out)
        | some l =>
          rw [he] at hr
          have he := Aside0.mk he
          change kept b l = r at hr
          unfold kept at hr
          by_cases hf : fineL l = true
          · by_cases hbb : encB l = b
            · rw [if_pos ⟨hf, hbb⟩] at hr
              subst hr
              have hstr := str_same (encB_isB l) HB.out
              rw [decide_eq_true hbb] at hstr
              have HBB := Aside0.mk hbb
              clear hbb
              have hf := Aside0.mk hf
              go_enter_defers Try.func13, Try.ntmps13
              go_wp2_with (first | (go_at_call 30; with_reducible refine (must_yes _).mono ?_; rintro e w2 ⟨rfl, rfl⟩) | (go_at_call 31; with_reducible refine (ents_yes (some ad) c _ _ (b.take (b.length - 1)) yn _ (by simp) rfl HCT.out (by simp; omega) (isB_take _ HB.out) (by simp; have := HL.out; omega) (by omega) l he.out).mono ?_; rintro e w3 ⟨A3, c3, rfl, hN3, hB3⟩; have HG3 := Aside0.mk (one_setCell (u := .slice A3 l.length c3) (blk_below HGA.out hB3)); have HQ3 := Aside0.mk (blk_far (blk_below HQA.out hB3) (p := ⟨w.heap.size, 0, none⟩) (by show w.heap.size + 1 ≠ w.heap.size; omega) (.slice A3 l.length c3)); have hgc := blk_cell (blk_below HGA.out hB3) 0; have hgf := blk_frozen (blk_below HGA.out hB3) 0; have HB3 := Aside0.mk ((below_step HBA.out hB3).setCell (p := ⟨w.heap.size, 0, none⟩) (Nat.le_refl _) (.slice A3 l.length c3)); have HN3 := Aside0.mk (Kd.N_mono (Kd.N_far hN3 (p := ⟨w.heap.size, 0, none⟩) (fun k hk => by simp at hk; show k ≠ w.heap.size; omega) (.slice A3 l.length c3)) (ok' := fun k => w.heap.size + 2 ≤ k) (fun k hk => by simpa using hk)); have HC3 := Aside0.mk (Kd.N_reads' HN3.out); clear hN3 hB3) | (go_at_call 9; with_reducible refine (enc_yes A3 c3 l _ HC3.out.2.2 HC3.out.2.1 hf.out).mono ?_; rintro e w4 ⟨A4, c4, rfl, hE4, hB4⟩; have HG4 := Aside0.mk (blk_below HG3.out hB4); have HQ4 := Aside0.mk (blk_below HQ3.out hB4); have HB4 := Aside0.mk (below_step HB3.out hB4); have HN4 := Aside0.mk (Kd.N_below HN3.out hB4); have hcv1 := Kd.C_string (P := Try.prog) (c := c4) Try.underlying24 Try.underlying5 Try.underlying9 hE4; have hcv2 := Kd.C_string (P := Try.prog) (c := c) Try.underlying24 Try.underlying5 Try.underlying9 (C_twin8 HC8.out (fun k hk => HB4.out.block k hk)); have hg4 := blk_cell HG4.out 0; have hgf4 := blk_frozen HG4.out 0; have hq4 := blk_cell HQ4.out 0; have hqf4 := blk_frozen HQ4.out 0; clear hB4 hE4) | (go_at_call 30; with_reducible refine (must_no _).mono ?_; rintro e w2 ⟨rfl, rfl⟩))
              have hg5 := blk_set HG4.out 0 (.slice A3 l.length c3)
              have hq5 := blk_far HQ4.out (p := ⟨w.heap.size, 0, none⟩) (by show w.heap.size + 1 ≠ w.heap.size; omega) (.slice A3 l.length c3)
              have hg6 := blk_far hg5 (p := ⟨w.heap.size + 1, 0, none⟩) (by show w.heap.size ≠ w.heap.size + 1; omega) (.int .i64 0)
              have hq6 := blk_set hq5 0 (.int .i64 0)
              have HN6 := Kd.N_far (Kd.N_far HN4.out (p := ⟨w.heap.size, 0, none⟩) (fun k hk => by show k ≠ w.heap.size; omega) (.slice A3 l.length c3)) (p := ⟨w.heap.size + 1, 0, none⟩) (fun k hk => by show k ≠ w.heap.size + 1; omega) (.int .i64 0)
              have HB6 := (HB4.out.setCell (p := ⟨w.heap.size, 0, none⟩) (Nat.le_refl _) (.slice A3 l.length c3)).setCell (p := ⟨w.heap.size + 1, 0, none⟩) (Nat.le_succ _) (.int .i64 0)
              exact door_ret rfl rfl (n := 0) (blk_cell hg6 0) (blk_cell hq6 0) HB6 (Kd.N_reads' HN6).2.1 (Kd.N_reads' HN6).2.2 (N_head HN6)
            · rw [if_neg (fun h => hbb h.2)] at hr
              subst hr
              have hstr := str_same (encB_isB l) HB.out
              rw [decide_eq_false hbb] at hstr
              have HBB := Aside0.mk hbb
              clear hbb
              have hf := Aside0.mk hf
              go_enter_defers Try.func13, Try.ntmps13
              go_wp2_with (first | (go_at_call 30; with_reducible refine (must_yes _).mono ?_; rintro e w2 ⟨rfl, rfl⟩) | (go_at_call 31; with_reducible refine (ents_yes (some ad) c _ _ (b.take (b.length - 1)) yn _ (by simp) rfl HCT.out (by simp; omega) (isB_take _ HB.out) (by simp; have := HL.out; omega) (by omega) l he.out).mono ?_; rintro e w3 ⟨A3, c3, rfl, hN3, hB3⟩; have HG3 := Aside0.mk (one_setCell (u := .slice A3 l.length c3) (blk_below HGA.out hB3)); have HQ3 := Aside0.mk (blk_far (blk_below HQA.out hB3) (p := ⟨w.heap.size, 0, none⟩) (by show w.heap.size + 1 ≠ w.heap.size; omega) (.slice A3 l.length c3)); have hgc := blk_cell (blk_below HGA.out hB3) 0; have hgf := blk_frozen (blk_below HGA.out hB3) 0; have HB3 := Aside0.mk ((below_step HBA.out hB3).setCell (p := ⟨w.heap.size, 0, none⟩) (Nat.le_refl _) (.slice A3 l.length c3)); have HN3 := Aside0.mk (Kd.N_mono (Kd.N_far hN3 (p := ⟨w.heap.size, 0, none⟩) (fun k hk => by simp at hk; show k ≠ w.heap.size; omega) (.slice A3 l.length c3)) (ok' := fun k => w.heap.size + 2 ≤ k) (fun k hk => by simpa using hk)); have HC3 := Aside0.mk (Kd.N_reads' HN3.out); clear hN3 hB3) | (go_at_call 9; with_reducible refine (enc_yes A3 c3 l _ HC3.out.2.2 HC3.out.2.1 hf.out).mono ?_; rintro e w4 ⟨A4, c4, rfl, hE4, hB4⟩; have HG4 := Aside0.mk (blk_below HG3.out hB4); have HQ4 := Aside0.mk (blk_below HQ3.out hB4); have HB4 := Aside0.mk (below_step HB3.out hB4); have HN4 := Aside0.mk (Kd.N_below HN3.out hB4); have hcv1 := Kd.C_string (P := Try.prog) (c := c4) Try.underlying24 Try.underlying5 Try.underlying9 hE4; have hcv2 := Kd.C_string (P := Try.prog) (c := c) Try.underlying24 Try.underlying5 Try.underlying9 (C_twin8 HC8.out (fun k hk => HB4.out.block k hk)); have hg4 := blk_cell HG4.out 0; have hgf4 := blk_frozen HG4.out 0; have hq4 := blk_cell HQ4.out 0; have hqf4 := blk_frozen HQ4.out 0; clear hB4 hE4) | (go_at_call 30; with_reducible refine (must_no _).mono ?_; rintro e w2 ⟨rfl, rfl⟩))
              exact door_panic rfl rfl (by omega) (by omega) (by omega) HG4.out HQ4.out HB4.out
          · rw [if_neg (fun h => hf h.1)] at hr
            subst hr
            have hf := Aside0.mk hf
            go_enter_defers Try.func13, Try.ntmps13
            go_wp2_with (first | (go_at_call 30; with_reducible refine (must_yes _).mono ?_; rintro e w2 ⟨rfl, rfl⟩) | (go_at_call 31; with_reducible refine (ents_yes (some ad) c _ _ (b.take (b.length - 1)) yn _ (by simp) rfl HCT.out (by simp; omega) (isB_take _ HB.out) (by simp; have := HL.out; omega) (by omega) l he.out).mono ?_; rintro e w3 ⟨A3, c3, rfl, hN3, hB3⟩; have HG3 := Aside0.mk (one_setCell (u := .slice A3 l.length c3) (blk_below HGA.out hB3)); have HQ3 := Aside0.mk (blk_far (blk_below HQA.out hB3) (p := ⟨w.heap.size, 0, none⟩) (by show w.heap.size + 1 ≠ w.heap.size; omega) (.slice A3 l.length c3)); have hgc := blk_cell (blk_below HGA.out hB3) 0; have hgf := blk_frozen (blk_below HGA.out hB3) 0; have HB3 := Aside0.mk ((below_step HBA.out hB3).setCell (p := ⟨w.heap.size, 0, none⟩) (Nat.le_refl _) (.slice A3 l.length c3)); have HN3 := Aside0.mk (Kd.N_mono (Kd.N_far hN3 (p := ⟨w.heap.size, 0, none⟩) (fun k hk => by simp at hk; show k ≠ w.heap.size; omega) (.slice A3 l.length c3)) (ok' := fun k => w.heap.size + 2 ≤ k) (fun k hk => by simpa using hk)); have HC3 := Aside0.mk (Kd.N_reads' HN3.out); clear hN3 hB3) | (go_at_call 9; with_reducible refine (enc_no A3 c3 l _ HC3.out.2.2 HC3.out.2.1 hf.out).mono ?_; rintro e w4 ⟨v4, rfl, hB4⟩; have HG4 := Aside0.mk (blk_below HG3.out hB4); have HQ4 := Aside0.mk (blk_below HQ3.out hB4); have HB4 := Aside0.mk (below_step HB3.out hB4); clear hB4) | (go_at_call 30; with_reducible refine (must_no _).mono ?_; rintro e w2 ⟨rfl, rfl⟩))
            exact door_panic rfl rfl (by omega) (by omega) (by omega) HG4.out HQ4.out HB4.out
end Go.Proofs.Ytoeidpenpehlpaa.PB
end
section
set_option linter.unusedVariables false
set_option linter.unusedSimpArgs false
namespace Go.Proofs.Ytoeidpenpehlpaa.PB
open Go.RowKit Go.Proofs.YtoeidpenpehlpaaW.PrintWords Go.Proofs.YtoeidpenpehlpaaW.PrintLast Go.Proofs.YtoeidpenpehlpaaW.PrintMore
theorem less_trans : ∀ x y z : List UInt8, Op.bytesLess x y = true → Op.bytesLess y z = true → Op.bytesLess x z = true
  | [], [], _, h, _ => by simp [Op.bytesLess] at h
  | [], _ :: _, [], _, k => by simp [Op.bytesLess] at k
  | [], _ :: _, _ :: _, _, _ => by simp [Op.bytesLess]
  | _ :: _, [], _, h, _ => by simp [Op.bytesLess] at h
  | _ :: _, _ :: _, [], _, k => by simp [Op.bytesLess] at k
  | a :: x, b :: y, c :: z, h, k => by
    simp only [Op.bytesLess, Bool.or_eq_true, Bool.and_eq_true, decide_eq_true_eq, beq_iff_eq] at h k ⊢
    rcases h with h | ⟨h, h2⟩
    · rcases k with k | ⟨k, _⟩
      · exact .inl (UInt8.lt_trans h k)
      · subst k; exact .inl h
    · subst h
      rcases k with k | ⟨k, k2⟩
      · exact .inl k
      · exact .inr ⟨k, less_trans x y z h2 k2⟩
theorem ahd_trans {a b c : S37} (h : ahd a b) (k : ahd b c) : ahd a c := by
  unfold ahd at h k ⊢
  by_cases hab : a.f0.toList = b.f0.toList
  · rw [if_pos hab] at h
    by_cases hbc : b.f0.toList = c.f0.toList
    · rw [if_pos hbc] at k
      rw [if_pos (hab.trans hbc)]
      omega
    · rw [if_neg hbc] at k
      rw [if_neg (fun e => hbc (hab.symm.trans e)), hab]
      exact k
  · rw [if_neg hab] at h
    by_cases hbc : b.f0.toList = c.f0.toList
    · rw [if_neg (fun e => hab (e.trans hbc.symm)), ← hbc]
      exact h
    · rw [if_neg hbc] at k
      have hl := less_trans _ _ _ h k
      have hne : ¬ a.f0.toList = c.f0.toList := fun e => by rw [e, less_irr] at hl; cases hl
      rw [if_neg hne]
      exact hl
theorem fine_sorted {l : List S37} (h : fineL l = true) : ∀ d i : Nat, i + d + 1 < l.length → ahd (l.getD i z37) (l.getD (i + d + 1) z37) := by
  intro d
  induction d with
  | zero =>
    intro i hi
    have := fine_ahd h (i := i + 1) (by omega) (by omega)
    rwa [Nat.add_sub_cancel] at this
  | succ d ih =>
    intro i hi
    have h1 := ih i (by omega)
    have h2 := fine_ahd h (i := i + d + 1 + 1) (by omega) (by omega)
    rw [Nat.add_sub_cancel] at h2
    exact ahd_trans h1 h2
theorem fine_lt {l : List S37} (h : fineL l = true) {i j : Nat} (hij : i < j) (hj : j < l.length) : ahd (l.getD i z37) (l.getD j z37) := by
  have := fine_sorted h (j - i - 1) i (by omega)
  rwa [show i + (j - i - 1) + 1 = j by omega] at this
def fits (key : ByteArray) (seq : Int) (x : S37) : Bool := decide (x.f0.toList = key.toList ∧ x.f1 ≤ seq)
def gotFrom (l : List S37) (key : ByteArray) (seq : Int) : Nat → Nat → Option S37
  | 0, _ => none
  | m + 1, i => if fits key seq (l.getD i z37) = true then some (l.getD i z37) else gotFrom l key seq m (i + 1)
def gotL (l : List S37) (key : ByteArray) (seq : Int) : Option S37 := gotFrom l key seq l.length 0
/-! ### the program's way: everything ahead of what is wanted is passed by -/
def wantE (key : ByteArray) (seq : Int) : S37 := ⟨key, seq, false, []⟩
theorem fits_ahd {key : ByteArray} {seq : Int} {x : S37} (h : ahd x (wantE key seq)) : fits key seq x = false := by
  unfold ahd at h
  unfold fits
  rw [decide_eq_false_iff_not]
  rintro ⟨h1, h2⟩
  rw [if_pos (show x.f0.toList = (wantE key seq).f0.toList from h1)] at h
  have : seq < x.f1 := h
  omega
theorem got_skip (l : List S37) (key : ByteArray) (seq : Int) : ∀ d m i, (∀ j, i ≤ j → j < i + d → ahd (l.getD j z37) (wantE key seq)) → gotFrom l key seq (d + m) i = gotFrom l key seq m (i + d) := by
  intro d
  induction d with
  | zero => intro m i _; rw [Nat.zero_add, Nat.add_zero]
  | succ d ih =>
    intro m i h
    rw [show d + 1 + m = (d + m) + 1 by omega, gotFrom, if_neg (by rw [fits_ahd (h i (by omega) (by omega))]; decide), ih m (i + 1) (fun j h1 h2 => h j (by omega) (by omega))]
    congr 1
    omega
/-- the first that is not ahead, at p: it is what is wanted, if its key is; else nothing is. -/
theorem got_hit (l : List S37) (key : ByteArray) (seq : Int) (p : Nat) (hp : p < l.length) (hA : ∀ j, j < p → ahd (l.getD j z37) (wantE key seq)) (hn : ¬ ahd (l.getD p z37) (wantE key seq)) (hk : (l.getD p z37).f0.toList = key.toList) : gotL l key seq = some (l.getD p z37) := by
  unfold gotL
  have h1 : l.length = p + ((l.length - p - 1) + 1) := by omega
  rw [show gotFrom l key seq l.length 0 = gotFrom l key seq (p + ((l.length - p - 1) + 1)) 0 from by rw [← h1], got_skip l key seq p _ 0 (fun j _ h => hA j (by omega)), Nat.zero_add, gotFrom, if_pos]
  unfold fits
  unfold ahd at hn
  rw [if_pos (show (l.getD p z37).f0.toList = (wantE key seq).f0.toList from hk)] at hn
  rw [decide_eq_true_eq]
  exact ⟨hk, by have : ¬ seq < (l.getD p z37).f1 := hn; omega⟩
theorem got_none (l : List S37) (key : ByteArray) (seq : Int) : ∀ m i, (∀ j, i ≤ j → j < i + m → ¬ (l.getD j z37).f0.toList = key.toList) → gotFrom l key seq m i = none := by
  intro m
  induction m with
  | zero => intro i _; rfl
  | succ m ih =>
    intro i h
    rw [gotFrom, if_neg (by unfold fits; rw [decide_eq_true_eq]; exact fun hh => h i (by omega) (by omega) hh.1), ih (i + 1) (fun j h1 h2 => h j (by omega) (by omega))]
theorem got_miss (l : List S37) (hf : fineL l = true) (key : ByteArray) (seq : Int) (p : Nat) (hp : p < l.length) (hA : ∀ j, j < p → ahd (l.getD j z37) (wantE key seq)) (hn : ¬ ahd (l.getD p z37) (wantE key seq)) (hk : ¬ (l.getD p z37).f0.toList = key.toList) : gotL l key seq = none := by
  unfold gotL
  have h1 : l.length = p + (l.length - p) := by omega
  rw [show gotFrom l key seq l.length 0 = gotFrom l key seq (p + (l.length - p)) 0 from by rw [← h1], got_skip l key seq p _ 0 (fun j _ h => hA j (by omega)), Nat.zero_add]
  refine got_none l key seq _ p fun j h2 h3 he => ?_
  have hne : ¬ (l.getD p z37).f0.toList = (wantE key seq).f0.toList := hk
  have hgt : Op.bytesLess key.toList (l.getD p z37).f0.toList = true := by
    unfold ahd at hn
    rw [if_neg hne] at hn
    cases hq : Op.bytesLess key.toList (l.getD p z37).f0.toList with
    | true => rfl
    | false => exact absurd (less_tot _ _ (Bool.eq_false_iff.2 hn) hq) hne
  by_cases hjp : j = p
  · subst hjp; exact hk he
  · have hlt := fine_lt hf (show p < j by omega) (show j < l.length by omega)
    unfold ahd at hlt
    rw [if_neg (fun e => hk (e.trans he)), he] at hlt
    have := less_trans _ _ _ hgt hlt
    rw [less_irr] at this
    cases this
theorem got_end (l : List S37) (key : ByteArray) (seq : Int) (hA : ∀ j, j < l.length → ahd (l.getD j z37) (wantE key seq)) : gotL l key seq = none := by
  unfold gotL
  have := got_skip l key seq l.length 0 0 (fun j _ h => hA j (by omega))
  rw [Nat.add_zero] at this
  rw [this]
  rfl
theorem pass_ahd {l : List S37} (hf : fineL l = true) (key : ByteArray) (seq : Int) {p : Nat} (hp : p < l.length) (h : ahd (l.getD p z37) (wantE key seq)) : ∀ j, j ≤ p → ahd (l.getD j z37) (wantE key seq) := by
  intro j hj
  by_cases e : j = p
  · rw [e]; exact h
  · exact ahd_trans (fine_lt hf (by omega) hp) h
end Go.Proofs.Ytoeidpenpehlpaa.PB
end
section
set_option linter.unusedVariables false
set_option linter.unusedSimpArgs false
namespace Go.Proofs.Ytoeidpenpehlpaa.PB
open Go.RowKit Go.Proofs.YtoeidpenpehlpaaW.PrintWords Go.Proofs.YtoeidpenpehlpaaW.PrintLast Go.Proofs.YtoeidpenpehlpaaW.PrintMore
theorem compare_c (x : S37) (key : ByteArray) (seq : Int) (A3 : Option Addr) (c3 : Nat) (w : World) (h3 : x.f3.length ≤ c3) (hC : k8.C w A3 x.f3.length x.f3) :
    Calls Try.prog 35 #[.agg #[.string x.f0, .int .i64 x.f1, .bool x.f2, .slice A3 x.f3.length c3], .agg #[.string key, .int .i64 seq, .bool false, .slice none 0 0]] w fun e w' => e = .returned (.int .i64 (cmpE x (wantE key seq))) ∧ Below w.heap.size w w' :=
  mem_Compare.calls x.f0 x.f1 x.f2 A3 c3 x.f3 key seq false none 0 [] _ w hC h3 (Kd.C_nil _ _) (Nat.le_refl _) (cmp_eq x (wantE key seq))
def cl34S (w : World) (g g9 g11 i c n : Nat) (x : S37) (key : ByteArray) (seq : Int) (A3 : Option Addr) (c3 : Nat) (w' : World) : Prop :=
  w'.cell? ⟨g9, 0, none⟩ = some (.slice (some ⟨g, 0, none⟩) n c) ∧ w'.cell? ⟨g, i * 8 * 4, none⟩ = some (.string x.f0) ∧ w'.cell? ⟨g, i * 8 * 4 + 1, none⟩ = some (.int .i64 x.f1) ∧ w'.cell? ⟨g, i * 8 * 4 + 2, none⟩ = some (.bool x.f2) ∧ w'.cell? ⟨g, i * 8 * 4 + 3, none⟩ = some (.slice A3 x.f3.length c3) ∧
  w'.cell? ⟨g11, 0, none⟩ = some (.string key) ∧ w'.cell? ⟨g11, 1, none⟩ = some (.int .i64 seq) ∧ w'.cell? ⟨g11, 2, none⟩ = some (.bool false) ∧ w'.cell? ⟨g11, 3, none⟩ = some (.slice none 0 0) ∧ k8.C w' A3 x.f3.length x.f3 ∧ Below w.heap.size w w'
theorem cl34S_drew {w : World} {g g9 g11 i c n : Nat} {x : S37} {key : ByteArray} {seq : Int} {A3 : Option Addr} {c3 : Nat} {w' : World} (h : cl34S w g g9 g11 i c n x key seq A3 c3 w') : cl34S w g g9 g11 i c n x key seq A3 c3 w'.drew := by
  obtain ⟨h1, h2, h3, h4, h5, h6, h7, h8, h9, h10, h11⟩ := h
  exact ⟨h1, h2, h3, h4, h5, h6, h7, h8, h9, Kd.C_drew h10, below_drew h11⟩
theorem cl34S_below {w : World} {g g9 g11 i c n : Nat} {x : S37} {key : ByteArray} {seq : Int} {A3 : Option Addr} {c3 : Nat} {w' w2 : World} (h : cl34S w g g9 g11 i c n x key seq A3 c3 w') (hB : Below w'.heap.size w' w2) : cl34S w g g9 g11 i c n x key seq A3 c3 w2 := by
  obtain ⟨h1, h2, h3, h4, h5, h6, h7, h8, h9, h10, h11⟩ := h
  exact ⟨pw_cell_below hB h1, pw_cell_below hB h2, pw_cell_below hB h3, pw_cell_below hB h4, pw_cell_below hB h5, pw_cell_below hB h6, pw_cell_below hB h7, pw_cell_below hB h8, pw_cell_below hB h9, Kd.C_below h10 hB, below_step h11 hB⟩
theorem cl34S_conj {w : World} {g g9 g11 i c n : Nat} {x : S37} {key : ByteArray} {seq : Int} {A3 : Option Addr} {c3 : Nat} {w' : World} (h : cl34S w g g9 g11 i c n x key seq A3 c3 w') :
    w'.cell? ⟨g9, 0, none⟩ = some (.slice (some ⟨g, 0, none⟩) n c) ∧ w'.cell? ⟨g, i * 8 * 4, none⟩ = some (.string x.f0) ∧ w'.cell? ⟨g, i * 8 * 4 + 1, none⟩ = some (.int .i64 x.f1) ∧ w'.cell? ⟨g, i * 8 * 4 + 2, none⟩ = some (.bool x.f2) ∧ w'.cell? ⟨g, i * 8 * 4 + 3, none⟩ = some (.slice A3 x.f3.length c3) ∧ w'.cell? ⟨g11, 0, none⟩ = some (.string key) ∧ w'.cell? ⟨g11, 1, none⟩ = some (.int .i64 seq) ∧ w'.cell? ⟨g11, 2, none⟩ = some (.bool false) ∧ w'.cell? ⟨g11, 3, none⟩ = some (.slice none 0 0) ∧ Aside0 (cl34S w g g9 g11 i c n x key seq A3 c3 w') := by
  obtain ⟨h1, h2, h3, h4, h5, h6, h7, h8, h9, h10, h11⟩ := id h
  exact ⟨h1, h2, h3, h4, h5, h6, h7, h8, h9, ⟨h⟩⟩
set_option maxHeartbeats 4000000 in
set_option maxRecDepth 100000 in
theorem cl34 (i g g9 g11 c : Nat) (l : List S37) (key : ByteArray) (seq : Int) (w : World) (h9 : w.heap[g9]? = some (.cells #[.slice (some ⟨g, 0, none⟩) l.length c] 22 (0, 0)))
    (h11 : w.heap[g11]? = some (.cells #[.string key, .int .i64 seq, .bool false, .slice none 0 0] 37 (0, 0))) (hC : Kd.C k37 w (some ⟨g, 0, none⟩) l.length l) (hi : i * 8 < l.length) (hl : l.length ≤ 64) :
    Calls Try.prog 34 #[.int .i64 i, .pointer (some ⟨g9, 0, none⟩), .pointer (some ⟨g11, 0, none⟩)] w fun e w' => e = .returned (.bool (decide (0 ≤ cmpE (l.getD (i * 8) z37) (wantE key seq)))) ∧ Below w.heap.size w w' := by
  obtain ⟨ad, A3, c3, he, hx0, hx1, hx2, hx3, hl3, hi3⟩ := at_T37 hC ((i * 8 : Nat) : Int) (by omega) (by omega)
  injection he with he
  subst he
  rw [rdT_D] at hx0 hx1 hx2 hx3 hl3 hi3
  generalize l.getD (i * 8) z37 = x at hx0 hx1 hx2 hx3 hl3 hi3 ⊢
  simp only [Int.toNat_natCast, add_plain] at hx0 hx1 hx2 hx3
  have HI := Aside0.mk hi3
  have HL := Aside0.mk hl3
  have c9 := blk_cell h9 0
  have d0 := blk_cell h11 0
  have d1 := blk_cell h11 1
  have d2 := blk_cell h11 2
  have d3 := blk_cell h11 3
  have hb0 : (0 : Int) ≤ (i : Int) * 8 := by omega
  have hb1 : (i : Int) * 8 < (l.length : Int) := by omega
  have hb2 : (i : Int) * 8 ≤ 64 := by omega
  have hmul : IntKind.i64.wrap ((i : Int) * 8) = (i : Int) * 8 := IntWalk.i64_in _ ⟨by omega, by omega⟩
  have htn : ((i : Int) * 8).toNat = i * 8 := by omega
  have HC := Aside0.mk hC
  clear h9 h11 hC hi hl3 hi3
  have hCw := HI.out
  have hBw := Below.refl w.heap.size w
  have hS : cl34S w g g9 g11 i c l.length x key seq A3 c3 w := ⟨c9, hx0, hx1, hx2, hx3, d0, d1, d2, d3, hCw, hBw⟩
  clear hCw hBw HC
  go_enter Try.func34, Try.ntmps34
  go_wp2
  go_region_held3 (fun w' => w'.cell? ⟨g9, 0, none⟩ = some (.slice (some ⟨g, 0, none⟩) l.length c) ∧ w'.cell? ⟨g, i * 8 * 4, none⟩ = some (.string x.f0) ∧ w'.cell? ⟨g, i * 8 * 4 + 1, none⟩ = some (.int .i64 x.f1) ∧ w'.cell? ⟨g, i * 8 * 4 + 2, none⟩ = some (.bool x.f2) ∧ w'.cell? ⟨g, i * 8 * 4 + 3, none⟩ = some (.slice A3 x.f3.length c3) ∧ w'.cell? ⟨g11, 0, none⟩ = some (.string key) ∧ w'.cell? ⟨g11, 1, none⟩ = some (.int .i64 seq) ∧ w'.cell? ⟨g11, 2, none⟩ = some (.bool false) ∧ w'.cell? ⟨g11, 3, none⟩ = some (.slice none 0 0) ∧ Aside0 (cl34S w g g9 g11 i c l.length x key seq A3 c3 w')) (first | exact cl34S_conj hS | exact cl34S_conj (cl34S_drew hS) | exact cl34S_conj (cl34S_below (cl34S_drew hS) (by assumption)))
    (first | (go_at_call 35; refine (compare_c x key seq A3 c3 _ HL.out ?_).mono ?_; (exact Kd.C_drew HI.out); rintro e w' ⟨rfl, hB⟩))
  all_goals go_wp2
  go_ret
  exact ⟨rfl, below_step (below_drew (Below.refl w.heap.size w)) (by assumption)⟩
end Go.Proofs.Ytoeidpenpehlpaa.PB
end
section
set_option linter.unusedVariables false
set_option linter.unusedSimpArgs false
namespace Go.Proofs.Ytoeidpenpehlpaa.PB
open Go.RowKit Go.Proofs.YtoeidpenpehlpaaW.PrintWords Go.Proofs.YtoeidpenpehlpaaW.PrintLast Go.Proofs.YtoeidpenpehlpaaW.PrintMore
def exA : List S37 := [⟨⟨#[97, 98]⟩, 1, false, [120]⟩, ⟨⟨#[97, 99]⟩, 1, true, []⟩]
theorem exA_fine : fineL exA = true := by decide +kernel
theorem exA_enc : encB exA = [0, 2, 97, 98, 2, 1, 120, 1, 1, 99, 3, 0, 0, 2] := by decide +kernel
theorem exA_ok : okB exA := by
  intro e he
  simp [exA] at he
  rcases he with rfl | rfl <;> intro x hx <;> simp at hx
  omega
theorem exA_C {W : World} {g0 g1 : Nat} (h0 : W.heap[g0]? = some (.cells #[.int .u8 120] 5 (1, 2))) (h1 : W.heap[g1]? = some (.cells #[.string ⟨#[97, 98]⟩, .int .i64 1, .bool false, .slice (some ⟨g0, 0, none⟩) 1 1, .string ⟨#[97, 99]⟩, .int .i64 1, .bool true, .slice none 0 0] 37 (0, 0))) :
    Kd.C k37 W (some ⟨g1, 0, none⟩) 2 exA := by
  have hA : k8.C W (some ⟨g0, 0, none⟩) 1 [120] := by
    refine ⟨rfl, by decide, fun _ => ⟨_, rfl, fun j p hj => ?_⟩⟩
    obtain rfl : j = 0 := by have := (List.getElem?_eq_some_iff.1 hj).1; simp at this; omega
    obtain rfl : 120 = p := by simpa using hj
    refine ⟨[.int .u8 120], rfl, rfl, fun i u hu => ?_⟩
    obtain rfl : i = 0 := by have := (List.getElem?_eq_some_iff.1 hu).1; simp at this; omega
    rw [add_plain, cell_of_row W g0 _ _ _ _ h0]
    exact hu
  have hz : k8.C W none 0 [] := Kd.C_nil _ _
  refine ⟨rfl, by decide, fun _ => ⟨_, rfl, fun j p hj => ?_⟩⟩
  have hj2 : j < 2 := (List.getElem?_eq_some_iff.1 hj).1
  rcases (show j = 0 ∨ j = 1 by omega) with rfl | rfl
  · obtain rfl : (⟨⟨#[97, 98]⟩, 1, false, [120]⟩ : S37) = p := by simpa [exA] using hj
    refine ⟨[.string ⟨#[97, 98]⟩, .int .i64 1, .bool false, .slice (some ⟨g0, 0, none⟩) 1 1], rfl, k37_mk W _ (A3 := some ⟨g0, 0, none⟩) (c3 := 1) (Nat.le_refl 1) hA, fun i u hu => ?_⟩
    have hi := (List.getElem?_eq_some_iff.1 hu).1
    rw [add_plain, blk_cell h1, ← hu]
    simp at hi
    rcases (show i = 0 ∨ i = 1 ∨ i = 2 ∨ i = 3 by omega) with rfl | rfl | rfl | rfl <;> rfl
  · obtain rfl : (⟨⟨#[97, 99]⟩, 1, true, []⟩ : S37) = p := by simpa [exA] using hj
    refine ⟨[.string ⟨#[97, 99]⟩, .int .i64 1, .bool true, .slice none 0 0], rfl, k37_mk W _ (A3 := none) (c3 := 0) (Nat.le_refl 0) hz, fun i u hu => ?_⟩
    have hi := (List.getElem?_eq_some_iff.1 hu).1
    rw [add_plain, blk_cell h1, ← hu]
    simp at hi
    rcases (show i = 0 ∨ i = 1 ∨ i = 2 ∨ i = 3 by omega) with rfl | rfl | rfl | rfl <;> rfl
theorem dec_yes (A : Option Addr) (c n : Nat) (b : List Int) (w : World) (hn : n = b.length) (hC : k8.C w A b.length b) (hc : b.length ≤ c) (hb : isB b) (hl : b.length ≤ 65536) (l : List S37) (hr : decP b = some l) :
    Calls Try.prog 13 #[.slice A n c] w fun e w' => ∃ A' c', e = .returned (.tuple #[.slice A' l.length c', .int .i64 0]) ∧ l.length ≤ c' ∧ Kd.C k37 w' A' l.length l ∧ (0 < l.length → ∃ g, A' = some ⟨g, 0, none⟩) ∧ Below w.heap.size w w' := by
  subst hn
  refine (decode_c A c b w hC hc hb hl _ hr).mono ?_
  rintro e w' ⟨hB, A', c', rfl, h1, h2, h3⟩
  exact ⟨A', c', rfl, h1, h2, h3, hB⟩
theorem dec_no (A : Option Addr) (c n : Nat) (b : List Int) (w : World) (hn : n = b.length) (hC : k8.C w A b.length b) (hc : b.length ≤ c) (hb : isB b) (hl : b.length ≤ 65536) (hr : decP b = none) :
    Calls Try.prog 13 #[.slice A n c] w fun e w' => e = .returned (.tuple #[.slice none 0 0, .int .i64 120]) ∧ Below w.heap.size w w' := by
  subst hn
  refine (decode_c A c b w hC hc hb hl _ hr).mono ?_
  rintro e w' ⟨hB, rfl⟩
  exact ⟨rfl, hB⟩
theorem exa_enc (A : Option Addr) (w : World) (hC : Kd.C k37 w A 2 exA) :
    Calls Try.prog 9 #[.slice A 2 2] w fun e w' => ∃ A' c', e = .returned (.tuple #[.slice A' 14 c', .int .i64 0]) ∧ 14 ≤ c' ∧ k8.C w' A' 14 (encB exA) ∧ Below w.heap.size w w' := by
  obtain ⟨k, hk⟩ := (enc_ev exA (by decide)).rounds
  rw [show encR exA = (encB exA, 0) from if_pos exA_fine] at hk
  refine (block_Encode.calls k A 2 exA _ _ w hC (Nat.le_refl 2) hk).mono ?_
  rintro e w' ⟨v, rfl, hR, hB⟩
  have hl : (encB exA).length = 14 := by rw [exA_enc]; rfl
  obtain ⟨A', c', rfl⟩ := Kd.R_slice hR
  have h2 := Kd.R_reads' hR
  rw [hl] at h2 ⊢
  exact ⟨A', c', rfl, h2.2.1, h2.2.2, hB⟩
theorem exa_dec (A : Option Addr) (c : Nat) (w : World) (hC : k8.C w A 14 (encB exA)) (hc : 14 ≤ c) :
    Calls Try.prog 13 #[.slice A 14 c] w fun e w' => ∃ g c', e = .returned (.tuple #[.slice (some ⟨g, 0, none⟩) 2 c', .int .i64 0]) ∧ w'.cell? ⟨g, 6, none⟩ = some (.bool true) ∧ Below w.heap.size w w' := by
  have hl : (encB exA).length = 14 := by rw [exA_enc]; rfl
  refine (dec_yes A c 14 (encB exA) w hl.symm (by rw [hl]; exact hC) (by rw [hl]; exact hc) (encB_isB _) (by rw [hl]; decide) exA (dec_full exA exA_fine exA_ok).1).mono ?_
  rintro e w' ⟨A', c', rfl, h1, h2, h4, h3⟩
  obtain ⟨g, rfl⟩ := h4 (by decide)
  obtain ⟨ad, A3, c3, he, _, _, hb, _⟩ := at_T37 h2 1 (by decide) (by decide)
  injection he with he
  subst he
  exact ⟨g, c', rfl, hb, h3⟩
set_option maxHeartbeats 4000000 in
set_option maxRecDepth 100000 in
theorem awake_c (w : World) : Calls Try.prog 11 #[] w fun e w' => e = .returned (.bool true) ∧ Below w.heap.size w w' := by
  have hcc := Go.Lib.run_convert_bytes_const (P := Try.prog) w 24 5 #[.int .u8 120] 1 1 Try.underlying24 Try.underlying5
  have HB0 := Aside0.mk (below_alloc (below_alloc (Below.refl w.heap.size w) (.cells #[.int .u8 120] 5 (1, 2))) (.cells #[.string ⟨#[97, 98]⟩, .int .i64 1, .bool false, .slice (some ⟨w.heap.size, 0, none⟩) 1 1, .string ⟨#[97, 99]⟩, .int .i64 1, .bool true, .slice none 0 0] 37))
  have HC0 := Aside0.mk (exA_C (g1 := w.heap.size + 1) (blk_alloc (blk_new w (.cells #[.int .u8 120] 5 (1, 2))) (.cells #[.string ⟨#[97, 98]⟩, .int .i64 1, .bool false, .slice (some ⟨w.heap.size, 0, none⟩) 1 1, .string ⟨#[97, 99]⟩, .int .i64 1, .bool true, .slice none 0 0] 37)) (by have h := blk_new (w.alloc (.cells #[.int .u8 120] 5 (1, 2))) (.cells #[.string ⟨#[97, 98]⟩, .int .i64 1, .bool false, .slice (some ⟨w.heap.size, 0, none⟩) 1 1, .string ⟨#[97, 99]⟩, .int .i64 1, .bool true, .slice none 0 0] 37); rwa [show (w.alloc (.cells #[.int .u8 120] 5 (1, 2))).heap.size = w.heap.size + 1 from by simp] at h))
  have hstr : (strOfNums (encB exA)) = ⟨#[0, 2, 97, 98, 2, 1, 120, 1, 1, 99, 3, 0, 0, 2]⟩ := by rw [exA_enc]; rfl
  have HSTR := Aside0.mk hstr
  clear hstr
  go_enter Try.func11, Try.ntmps11
  go_wp2_with (first | (go_at_call 9; with_reducible refine (exa_enc (some ⟨w.heap.size + 1, 0, none⟩) _ HC0.out).mono ?_; rintro e w1 ⟨A1, c1, rfl, hc1, hE1, hB1⟩; have HB1 := Aside0.mk (below_step HB0.out hB1); have HE1 := Aside0.mk hE1; have HR1 := Aside0.mk hc1; clear hE1 hB1 hc1) | (go_at_call 13; with_reducible refine (exa_dec A1 c1 _ HE1.out HR1.out).mono ?_; rintro e w2 ⟨g2, c2, rfl, hcell, hB2⟩; have HB2 := Aside0.mk (below_step HB1.out hB2); have hcv := Kd.C_string (P := Try.prog) (c := c1) Try.underlying24 Try.underlying5 Try.underlying9 (Kd.C_below HE1.out hB2); rw [HSTR.out] at hcv; clear hB2))
  go_ret
  exact ⟨rfl, HB2.out⟩
end Go.Proofs.Ytoeidpenpehlpaa.PB
end
section
set_option linter.unusedVariables false
set_option linter.unusedSimpArgs false
namespace Go.Proofs.Ytoeidpenpehlpaa.PB
open Go.RowKit Go.Proofs.YtoeidpenpehlpaaW.PrintWords Go.Proofs.YtoeidpenpehlpaaW.PrintLast Go.Proofs.YtoeidpenpehlpaaW.PrintMore
theorem size37 : (Try.prog.info? 37).map (·.size) = some 4 := by kernel_rfl
theorem store4_event {P : Program} {ops : Array Oper} {rest : List Oper} {o : Oper} {a : Act} {Q : Exit → Act → World → Prop} {W : World} (hgd : o.guard = none) (hN : o.dst = none) {T e : TypeId} {p x : Operand} {cs cur : Array Value} {g : Nat} (ho : o.op = .store T p x)
    (hp : a.eval p = .pointer (some ⟨g, 0, none⟩)) (hx : a.eval x = .agg cs) (hb : W.heap[g]? = some (.cells cur e (0, 0)))
    (hi : (P.info? T).map (·.size) = some cs.size) (hn : cur.size = cs.size) (h1 : ∀ q ∈ cs.toList, q.oneCell' = true)
    (h : ∀ w1, w1.heap[g]? = some (.cells cs e (0, 0)) → W.grownBy w1 (some g) → w1.heap.size = W.heap.size → wpList P ops Q rest a w1) : wpList P ops Q (o :: rest) a W := by
  refine store_agg_event hgd hN ho hp hx hb hi (by omega) h1 fun w1 hb1 hg1 hs1 => h w1 ?_ hg1 hs1
  rw [hb1, hn, show cur.extract cs.size cs.size = #[] from by simp; omega, Array.append_empty]
theorem grownB {w W W1 : World} {g : Nat} (hB : Below w.heap.size w W) (hg : W.grownBy W1 (some g)) (hlt : w.heap.size ≤ g) : Below w.heap.size w W1 := hB.grown hg hB.size (fun k hk => by injection hk with hk; omega)
end Go.Proofs.Ytoeidpenpehlpaa.PB
end
section
set_option linter.unusedVariables false
set_option linter.unusedSimpArgs false
namespace Go.Proofs.Ytoeidpenpehlpaa.PB
open Go.RowKit Go.Proofs.YtoeidpenpehlpaaW.PrintWords Go.Proofs.YtoeidpenpehlpaaW.PrintLast Go.Proofs.YtoeidpenpehlpaaW.PrintMore
theorem cl_yes (i g g9 g11 c : Nat) (l : List S37) (key : ByteArray) (seq : Int) (w : World) (h9 : w.heap[g9]? = some (.cells #[.slice (some ⟨g, 0, none⟩) l.length c] 22 (0, 0)))
    (h11 : w.heap[g11]? = some (.cells #[.string key, .int .i64 seq, .bool false, .slice none 0 0] 37 (0, 0))) (hC : Kd.C k37 w (some ⟨g, 0, none⟩) l.length l) (hi : i * 8 < l.length) (hl : l.length ≤ 64) (b : Bool) (hb : decide (0 ≤ cmpE (l.getD (i * 8) z37) (wantE key seq)) = b) (ii : Int) (hii : ii = i) :
    Calls Try.prog 34 #[.int .i64 ii, .pointer (some ⟨g9, 0, none⟩), .pointer (some ⟨g11, 0, none⟩)] w fun e w' => e = .returned (.bool b) ∧ Below w.heap.size w w' := by
  subst hb hii
  exact cl34 i g g9 g11 c l key seq w h9 h11 hC hi hl
set_option maxHeartbeats 4000000 in
set_option maxRecDepth 100000 in
theorem search_c (n g g9 g11 c : Nat) (l : List S37) (key : ByteArray) (seq : Int) (w : World) (h9 : w.heap[g9]? = some (.cells #[.slice (some ⟨g, 0, none⟩) l.length c] 22 (0, 0)))
    (h11 : w.heap[g11]? = some (.cells #[.string key, .int .i64 seq, .bool false, .slice none 0 0] 37 (0, 0))) (hC : Kd.C k37 w (some ⟨g, 0, none⟩) l.length l) (hn : (n - 1) * 8 < l.length) (hl : l.length ≤ 64) (hn9 : n ≤ 8) :
    Calls Try.prog 33 #[.int .i64 n, .func (Fn.func 34) #[] #[.pointer (some ⟨g9, 0, none⟩), .pointer (some ⟨g11, 0, none⟩)]] w fun e w' => ∃ r : Nat, e = .returned (.int .i64 r) ∧ r ≤ n ∧ (0 < r → cmpE (l.getD ((r - 1) * 8) z37) (wantE key seq) < 0) ∧ Below w.heap.size w w' := by
  have hnot : ∀ (x : Bool) (w : World), (Op.unary .not (.bool x)).run Try.prog w = .ok (.bool (!x)) w := fun _ _ => rfl
  have H9 := Aside0.mk h9
  have H11 := Aside0.mk h11
  have HC := Aside0.mk hC
  have HN := Aside0.mk hn
  have HL := Aside0.mk hl
  clear h9 h11 hC hn hl
  go_enter Try.func33, Try.ntmps33
  go_wp2
  go_loopg [5, 6] (n + 1) (fun kq v5 v6 w' => ∃ i j : Nat, v5 = .int .i64 i ∧ v6 = .int .i64 j ∧ Aside0 (i ≤ j) ∧ Aside0 (j ≤ n) ∧ Aside0 (j - i < kq) ∧ Aside0 (0 < i → cmpE (l.getD ((i - 1) * 8) z37) (wantE key seq) < 0) ∧ Aside0 (Below w.heap.size w w'))
  case atStart => exact ⟨0, n, rfl, rfl, ⟨by omega⟩, ⟨Nat.le_refl _⟩, ⟨by omega⟩, ⟨fun h => absurd h (by omega)⟩, ⟨Below.refl _ _⟩⟩
  case round =>
    obtain ⟨i, j, rfl, rfl, HIJ, HJ, HK, HP, HB⟩ := hrel
    have hij := HIJ.out
    have hj := HJ.out
    by_cases hlt : i < j
    · have ht : decide (i < j) = true := decide_eq_true hlt
      have ht2 : decide ((i : Int) < (j : Int)) = true := decide_eq_true (by omega)
      have hj8 : (j : Int) ≤ 8 := by omega
      have hi8 : (i : Int) ≤ 8 := by omega
      by_cases hc : 0 ≤ cmpE (l.getD ((i + j) / 2 * 8) z37) (wantE key seq)
      · have HT := Aside0.mk (decide_eq_true hc)
        clear hc
        go_wp2_with (first | (go_at_call 34; with_reducible refine (cl_yes ((i + j) / 2) g g9 g11 c l key seq _ (blk_below H9.out HB.out) (blk_below H11.out HB.out) (Kd.C_below HC.out HB.out) (by have := HN.out; omega) HL.out true HT.out _ (by omega)).mono ?_; rintro e w1 ⟨rfl, hB1⟩; have HB1 := Aside0.mk (below_step HB.out hB1); clear hB1))
        go_roundg (j - i)
        case measure => exact HK.out
        case rel => exact ⟨i, (i + j) / 2, rfl, by go_num, ⟨by omega⟩, ⟨by omega⟩, ⟨by omega⟩, HP, HB1⟩
      · have HT := Aside0.mk (decide_eq_false hc)
        have HPN := Aside0.mk (show 0 < (i + j) / 2 + 1 → cmpE (l.getD (((i + j) / 2 + 1 - 1) * 8) z37) (wantE key seq) < 0 from fun _ => by rw [Nat.add_sub_cancel]; omega)
        clear hc
        go_wp2_with (first | (go_at_call 34; with_reducible refine (cl_yes ((i + j) / 2) g g9 g11 c l key seq _ (blk_below H9.out HB.out) (blk_below H11.out HB.out) (Kd.C_below HC.out HB.out) (by have := HN.out; omega) HL.out false HT.out _ (by omega)).mono ?_; rintro e w1 ⟨rfl, hB1⟩; have HB1 := Aside0.mk (below_step HB.out hB1); clear hB1))
        go_roundg (j - i)
        case measure => exact HK.out
        case rel => exact ⟨(i + j) / 2 + 1, j, by go_num, rfl, ⟨by omega⟩, HJ, ⟨by omega⟩, HPN, HB1⟩
    · have ht : decide (i < j) = false := decide_eq_false hlt
      have ht2 : decide ((i : Int) < (j : Int)) = false := decide_eq_false (by omega)
      go_wp2
      go_ret
      exact ⟨i, rfl, by omega, HP.out, HB.out⟩
end Go.Proofs.Ytoeidpenpehlpaa.PB
end
section
set_option linter.unusedVariables false
set_option linter.unusedSimpArgs false
namespace Go.Proofs.Ytoeidpenpehlpaa.PB
open Go.RowKit Go.Proofs.YtoeidpenpehlpaaW.PrintWords Go.Proofs.YtoeidpenpehlpaaW.PrintLast Go.Proofs.YtoeidpenpehlpaaW.PrintMore
def foundP (d : Option (List S37)) (key : ByteArray) (seq : Int) : Option S37 × Int :=
  match d with
  | none => (none, 120)
  | some l => (gotL l key seq, 0)
theorem cells_at {W : World} {g : Nat} {l : List S37} (hC : Kd.C k37 W (some ⟨g, 0, none⟩) l.length l) (p : Nat) (hp : p < l.length) (x : S37) (hx : x = l.getD p z37) :
    ∃ A3 c3, W.cell? ⟨g, p * 4, none⟩ = some (.string x.f0) ∧ W.cell? ⟨g, p * 4 + 1, none⟩ = some (.int .i64 x.f1) ∧ W.cell? ⟨g, p * 4 + 2, none⟩ = some (.bool x.f2) ∧ W.cell? ⟨g, p * 4 + 3, none⟩ = some (.slice A3 x.f3.length c3) ∧ x.f3.length ≤ c3 ∧ k8.C W A3 x.f3.length x.f3 := by
  obtain ⟨ad, A3, c3, he, hx0, hx1, hx2, hx3, hl3, hi3⟩ := at_T37 hC ((p : Nat) : Int) (by omega) (by omega)
  injection he with he
  subst he
  rw [rdT_D, ← hx] at hx0 hx1 hx2 hx3 hl3 hi3
  simp only [Int.toNat_natCast, add_plain] at hx0 hx1 hx2 hx3
  exact ⟨A3, c3, hx0, hx1, hx2, hx3, hl3, hi3⟩
def findOut (w' : World) (e : Ending) (o : Option S37) (er : Int) : Prop :=
  ∃ A3 c3, e = .returned (.tuple #[.agg #[.string (o.getD z37).f0, .int .i64 (o.getD z37).f1, .bool (o.getD z37).f2, .slice A3 (o.getD z37).f3.length c3], .bool o.isSome, .int .i64 er]) ∧ (o.getD z37).f3.length ≤ c3 ∧ k8.C w' A3 (o.getD z37).f3.length (o.getD z37).f3
theorem find_none (w' : World) (er : Int) : findOut w' (.returned (.tuple #[.agg #[.string ⟨#[]⟩, .int .i64 0, .bool false, .slice none 0 0], .bool false, .int .i64 er])) none er := ⟨none, 0, rfl, Nat.le_refl _, Kd.C_nil _ _⟩
theorem endF {f : Func} (hr : f.results = #[.cell 6 37, .tmp 7, .tmp 8]) {R : Ending → World → Prop} {W : World} {a : Act} {g : Nat} {cs : Array Value} {v7 v8 : Value} (hblk : W.heap[g]? = some (.cells cs 37 (0, 0))) (hs : cs.size = 4) (h4 : a.tmps.getD 6 undef = .pointer (some ⟨g, 0, none⟩)) (h7 : a.tmps.getD 7 undef = v7) (h8 : a.tmps.getD 8 undef = v8)
    (hpost : R (.returned (.tuple #[.agg cs, v7, v8])) W) (hd : a.defers = [] := by rfl) : bodyPost Try.prog f R Exit.ret a W := by
  refine bodyPost_ret (v := .tuple #[.agg cs, v7, v8]) ?_ hd hpost
  rw [← h7, ← h8]
  exact results_list (rs := [.cell 6 37, .tmp 7, .tmp 8]) hr (by simp) (.cell g 37 cs (0, 0) _ h4 hblk Try.underlying37 rfl (by rw [size37, hs]) (.tmp (.tmp .nil)))
theorem C_grown8 {w4 w5 : World} {A : Option Addr} {n g : Nat} {xs : List Int} {cs : Array Value} {t : TypeId} (hC : k8.C w4 A n xs) (hb : w4.heap[g]? = some (.cells cs t (0, 0))) (hcs : ∀ (j : Nat) (p : Int), cs[j]? ≠ some (.int .u8 p)) (hg : w4.grownBy w5 (some g)) : k8.C w5 A n xs := by
  refine ⟨hC.1, hC.2.1, fun hn => ?_⟩
  obtain ⟨ad, he, hc⟩ := hC.2.2 hn
  refine ⟨ad, he, fun j p hj => ?_⟩
  obtain ⟨c, hl, hK, hcell⟩ := hc j p hj
  refine ⟨c, hl, hK, fun i u hu => ?_⟩
  have h1 := hcell i u hu
  have hlt := World.block_lt_of_cell? w4 _ h1
  by_cases hbk : (ad.add (j * k8.sz + i)).block = g
  · exfalso
    have hu8 : u = .int .u8 p := by
      have hcc : c = [.int .u8 p] := hK
      rw [hcc] at hu
      have hi : i = 0 := by have := (List.getElem?_eq_some_iff.1 hu).1; simp at this; omega
      subst hi
      exact (Option.some.inj hu).symm
    unfold World.cell? at h1
    rw [hbk, hb] at h1
    dsimp only at h1
    split at h1
    · cases h1
    · rw [hu8] at h1
      exact hcs _ _ h1
  · rw [← h1]
    exact World.cell?_of_block (w := w4) (hg.block _ hlt (fun e => hbk (by injection e)))
theorem zero_no8 : ∀ (j : Nat) (p : Int), (#[Value.string ⟨#[]⟩, .int .i64 0, .bool false, .slice none 0 0] : Array Value)[j]? ≠ some (.int .u8 p) := by
  intro j p
  rcases j with _ | _ | _ | _ | j <;> simp
theorem search_2 (n g g9 g11 c : Nat) (l : List S37) (key : ByteArray) (seq : Int) (w : World) (h9 : w.heap[g9]? = some (.cells #[.slice (some ⟨g, 0, none⟩) l.length c] 22 (0, 0)))
    (h11 : w.heap[g11]? = some (.cells #[.string key, .int .i64 seq, .bool false, .slice none 0 0] 37 (0, 0))) (hC : Kd.C k37 w (some ⟨g, 0, none⟩) l.length l) (hn : (n - 1) * 8 < l.length) (hl : l.length ≤ 64) (hn9 : n ≤ 8) (ni : Int) (hni : ni = n) :
    Calls Try.prog 33 #[.int .i64 ni, .func (Fn.func 34) #[] #[.pointer (some ⟨g9, 0, none⟩), .pointer (some ⟨g11, 0, none⟩)]] w fun e w' => ∃ r : Nat, e = .returned (.int .i64 r) ∧ r ≤ n ∧ (0 < r → cmpE (l.getD ((r - 1) * 8) z37) (wantE key seq) < 0) ∧ Below w.heap.size w w' := by
  subst hni
  exact search_c n g g9 g11 c l key seq w h9 h11 hC hn hl hn9
set_option maxHeartbeats 4000000 in
set_option maxRecDepth 100000 in
theorem find_c (A : Option Addr) (c : Nat) (b : List Int) (key : ByteArray) (seq : Int) (w : World) (hC : k8.C w A b.length b) (hc : b.length ≤ c) (hb : isB b) (hl : b.length ≤ 65536) (o : Option S37) (er : Int) (ho : foundP (decP b) key seq = (o, er)) :
    Calls Try.prog 16 #[.slice A b.length c, .string key, .int .i64 seq] w fun e w' => findOut w' e o er ∧ Below w.heap.size w w' := by
  have HBA := Aside0.mk (below_alloc (Below.refl w.heap.size w) (.cells #[.string ⟨#[]⟩, .int .i64 0, .bool false, .slice none 0 0] 37))
  have HGA := Aside0.mk (blk_new w (.cells #[.string ⟨#[]⟩, .int .i64 0, .bool false, .slice none 0 0] 37))
  have HC0 := Aside0.mk (Kd.C_alloc hC (.cells #[.string ⟨#[]⟩, .int .i64 0, .bool false, .slice none 0 0] 37))
  have HI := Aside0.mk hb
  have HL := Aside0.mk hl
  clear hC hb hl
  cases hd : decP b with
  | none =>
    rw [hd] at ho
    simp only [foundP, Prod.mk.injEq] at ho
    obtain ⟨rfl, rfl⟩ := ho
    have HD := Aside0.mk hd
    clear hd
    go_enter Try.func16, Try.ntmps16
    go_wp2_with (first | (go_at_call 13; with_reducible refine (dec_no A c _ b _ rfl HC0.out hc HI.out HL.out HD.out).mono ?_; rintro e w1 ⟨rfl, hB1⟩; have HG1 := Aside0.mk (blk_below HGA.out hB1); have HB1 := Aside0.mk (below_step HBA.out hB1); clear hB1) | ((with_reducible refine gate_store (t := 37) (p := 6) (v := .tmp 24) rfl ?_); refine store4_event (cs := #[.string ⟨#[]⟩, .int .i64 0, .bool false, .slice none 0 0]) rfl rfl rfl rfl rfl (blk_alloc HG1.out _) size37 rfl (by intro q hq; simp at hq; rcases hq with rfl | rfl | rfl | rfl <;> rfl) ?_; intro w2_ hb2 hg2 hs2; have HG2 := Aside0.mk hb2; have HB2 := Aside0.mk (grownB (below_alloc HB1.out _) hg2 (Nat.le_refl _)); clear hb2 hg2 hs2))
    exact endF rfl HG2.out rfl rfl rfl rfl ⟨find_none _ _, HB2.out⟩
  | some l =>
    rw [hd] at ho
    simp only [foundP, Prod.mk.injEq] at ho
    obtain ⟨ho, rfl⟩ := ho
    have hf := (decP_sound hd).1
    have hlen := fine_len hf
    have HF := Aside0.mk hf
    have HO := Aside0.mk ho
    have HD := Aside0.mk hd
    have hll : (l.length : Int) ≤ 64 := by omega
    have hl1 : (1 : Int) ≤ (l.length : Int) := by omega
    have HLN := Aside0.mk hlen
    clear hd ho hf hlen
    go_enter Try.func16, Try.ntmps16
    go_wp2_with (first | (go_at_call 13; with_reducible refine (dec_yes A c _ b _ rfl HC0.out hc HI.out HL.out l HD.out).mono ?_; rintro e w1 ⟨A1, c1, rfl, hc1, hC1, hh1, hB1⟩; (obtain ⟨g, rfl⟩ := hh1 (by have := HLN.out; omega)); have HG1 := Aside0.mk (blk_below HGA.out hB1); have HB1 := Aside0.mk (below_step HBA.out hB1); have HC1 := Aside0.mk hC1; have Hc1 := Aside0.mk hc1; clear hB1 hC1 hc1 hh1))
    have hc1 := Hc1.out
    have hln := HLN.out
    have HT9 := Aside0.mk (blk_alloc (blk_new w1 (.cells #[.slice (some ⟨g, 0, none⟩) l.length c1] 22)) (.cells #[.string key, .int .i64 seq, .bool false, .slice none 0 0] 37))
    have HT11 := Aside0.mk (show ((w1.alloc (.cells #[.slice (some ⟨g, 0, none⟩) l.length c1] 22)).alloc (.cells #[.string key, .int .i64 seq, .bool false, .slice none 0 0] 37)).heap[w1.heap.size + 1]? = some (.cells #[.string key, .int .i64 seq, .bool false, .slice none 0 0] 37 (0, 0)) from by have h := blk_new (w1.alloc (.cells #[.slice (some ⟨g, 0, none⟩) l.length c1] 22)) (.cells #[.string key, .int .i64 seq, .bool false, .slice none 0 0] 37); rwa [show (w1.alloc (.cells #[.slice (some ⟨g, 0, none⟩) l.length c1] 22)).heap.size = w1.heap.size + 1 from by simp] at h)
    refine (search_2 ((l.length + 7) / 8) g _ _ c1 l key seq _ HT9.out HT11.out (Kd.C_alloc (Kd.C_alloc HC1.out _) _) (by omega) hln.2 (by omega) _ (by omega)).mono ?_
    rintro e w2 ⟨r, rfl, hr1, hr2, hB2⟩
    have HT92 := Aside0.mk (blk_below HT9.out hB2)
    have HT112 := Aside0.mk (blk_below HT11.out hB2)
    have HG2 := Aside0.mk (blk_below (blk_alloc (blk_alloc HG1.out _) _) hB2)
    have HC2 := Aside0.mk (Kd.C_below (Kd.C_alloc (Kd.C_alloc HC1.out _) _) hB2)
    have HB2 := Aside0.mk (below_step (below_alloc (below_alloc HB1.out _) _) hB2)
    clear hB2
    obtain ⟨f, hf⟩ : ∃ f : Nat, f = (r - 1) * 8 := ⟨_, rfl⟩
    have hfl : f < l.length := by omega
    have hpre := Aside0.mk (show ∀ j, j < f → ahd (l.getD j z37) (wantE key seq) from fun j hj => by
      have h0 : 0 < r := by omega
      have h1 := (cmp_neg _ _).1 (hr2 h0)
      rw [← hf] at h1
      exact pass_ahd HF.out key seq hfl h1 j (by omega))
    have hmx : ∀ (ats : Array TypeId) (ty : TypeId) (W : World), (Builtin.max_ ats ty #[.int .i64 0, .int .i64 (((r : Int) - 1) * 8)]).run Try.prog W = .ok (.int .i64 ((f : Nat) : Int)) W := fun ats ty W => by
      rw [max_two, max2_int]
      by_cases h : (0 : Int) < ((r : Int) - 1) * 8
      · rw [if_pos h]; simp; omega
      · rw [if_neg h]; simp; omega
    have hcut : ∀ W : World, (Instr.slice 22 (.slice (some ⟨g, 0, none⟩) l.length c1) (some (.int .i64 ((f : Nat) : Int))) none none).run Try.prog W = .ok (.slice (some ⟨g, f * 4, none⟩) (l.length - f) (c1 - f)) W := fun W => by
      obtain ⟨i0, hi0, _, hsz, _⟩ := info_parts info37
      rw [cut_from (P := Try.prog) 22 37 .i64 Try.underlying22 hi0 4 hsz (some ⟨g, 0, none⟩) l.length c1 ((f : Nat) : Int) (by omega) (by omega) W, if_neg (by omega)]
      simp [add_plain]
    have h9 := blk_cell HT92.out 0
    have HFE := Aside0.mk hf
    have hr8 : (r : Int) ≤ 8 := by omega
    clear hr2 hf hc1 hln
    go_wp2
    go_loopg [45] (l.length + 1) (fun kq v45 wr => ∃ i : Nat, v45 = .int .i64 i ∧ Aside0 (f + i ≤ l.length) ∧ Aside0 (l.length - (f + i) < kq) ∧ Aside0 (∀ j, j < f + i → ahd (l.getD j z37) (wantE key seq)) ∧ Aside0 (Below w.heap.size w wr) ∧ Aside0 (Below w2.heap.size w2 wr))
    case atStart => exact ⟨0, rfl, ⟨by omega⟩, ⟨by omega⟩, ⟨fun j hj => hpre.out j (by omega)⟩, HB2, ⟨Below.refl _ _⟩⟩
    case round =>
      obtain ⟨i, rfl, HFI, HK, HP, HB3, HB23⟩ := hrel
      have hfi := HFI.out
      by_cases hlt : f + i < l.length
      · have ht : decide (i < l.length - f) = true := decide_eq_true (by omega)
        have ht2 : decide ((i : Int) < ((l.length - f : Nat) : Int)) = true := decide_eq_true (by omega)
        have hi0 : (0 : Int) ≤ (i : Int) := by omega
        have hi1 : (i : Int) < ((l.length - f : Nat) : Int) := by omega
        obtain ⟨ad, A3, c3, he, hx0, hx1, hx2, hx3, hl3, hi3⟩ := at_T37 (Kd.C_below HC2.out HB23.out) ((f + i : Nat) : Int) (by omega) (by omega)
        injection he with he
        subst he
        rw [rdT_D] at hx0 hx1 hx2 hx3 hl3 hi3
        have hxe : ∃ x, x = l.getD (f + i) z37 := ⟨_, rfl⟩
        obtain ⟨x, hxe⟩ := hxe
        rw [← hxe] at hx0 hx1 hx2 hx3 hl3 hi3
        simp only [Int.toNat_natCast, add_plain, Nat.add_mul] at hx0 hx1 hx2 hx3
        have HXE := Aside0.mk hxe
        have HI3 := Aside0.mk hi3
        have HL3 := Aside0.mk hl3
        have d0 : ∀ o, (wr.alloc o).cell? ⟨w1.heap.size + 1, 0, none⟩ = some (.string key) := fun o => (blk_cell (blk_alloc (blk_below HT112.out HB23.out) o) 0).trans rfl
        have d1 : ∀ o, (wr.alloc o).cell? ⟨w1.heap.size + 1, 1, none⟩ = some (.int .i64 seq) := fun o => (blk_cell (blk_alloc (blk_below HT112.out HB23.out) o) 1).trans rfl
        have d2 : ∀ o, (wr.alloc o).cell? ⟨w1.heap.size + 1, 2, none⟩ = some (.bool false) := fun o => (blk_cell (blk_alloc (blk_below HT112.out HB23.out) o) 2).trans rfl
        have d3 : ∀ o, (wr.alloc o).cell? ⟨w1.heap.size + 1, 3, none⟩ = some (.slice none 0 0) := fun o => (blk_cell (blk_alloc (blk_below HT112.out HB23.out) o) 3).trans rfl
        clear hxe hi3 hl3
        by_cases hcm : 0 ≤ cmpE x (wantE key seq)
        · have hna : ¬ ahd x (wantE key seq) := fun h => absurd ((cmp_neg _ _).2 h) (by omega)
          have hcd : decide (0 ≤ cmpE x (wantE key seq)) = true := decide_eq_true hcm
          have hfin := HO.out
          by_cases hk : x.f0.toList = key.toList
          · have hkk : (x.f0.toList == key.toList) = true := by rw [hk]; exact beq_self_eq_true _
            rw [got_hit l key seq (f + i) hlt HP.out (by rw [← HXE.out]; exact hna) (by rw [← HXE.out]; exact hk), ← HXE.out] at hfin
            subst hfin
            clear hk hna hcm
            go_wp2_with (first | (go_at_call 35; with_reducible refine (compare_c x key seq A3 c3 _ HL3.out (Kd.C_alloc HI3.out _)).mono ?_; rintro e w4 ⟨rfl, hB4⟩; have HB4 := Aside0.mk (below_step (below_alloc HB3.out _) hB4); have HB24 := Aside0.mk (below_step (below_alloc HB23.out _) hB4); have HT16 := Aside0.mk (blk_below (blk_new wr _) hB4); have e0 := blk_cell HT16.out 0; have e1 := blk_cell HT16.out 1; have e2 := blk_cell HT16.out 2; have e3 := blk_cell HT16.out 3; have HF4 := Aside0.mk (Kd.C_below (Kd.C_alloc HI3.out _) hB4); clear hB4) | ((with_reducible refine gate_store (t := 37) (p := 6) (v := .tmp 57) rfl ?_); refine store4_event (cs := #[.string x.f0, .int .i64 x.f1, .bool x.f2, .slice A3 x.f3.length c3]) rfl rfl rfl rfl rfl (blk_below HG2.out HB24.out) size37 rfl (by intro q hq; simp at hq; rcases hq with rfl | rfl | rfl | rfl <;> rfl) ?_; intro w5 hb5 hg5 hs5; have HG5 := Aside0.mk hb5; have HB5 := Aside0.mk (grownB HB4.out hg5 (Nat.le_refl _)); have HI5 := Aside0.mk (C_grown8 HF4.out (blk_below HG2.out HB24.out) zero_no8 hg5); clear hb5 hg5 hs5))
            exact endF rfl HG5.out rfl rfl rfl rfl ⟨⟨A3, c3, rfl, HL3.out, HI5.out⟩, HB5.out⟩
          · have hkk : (x.f0.toList == key.toList) = false := beq_eq_false_iff_ne.2 hk
            rw [got_miss l HF.out key seq (f + i) hlt HP.out (by rw [← HXE.out]; exact hna) (by rw [← HXE.out]; exact hk)] at hfin
            subst hfin
            clear hk hna hcm
            go_wp2_with (first | (go_at_call 35; with_reducible refine (compare_c x key seq A3 c3 _ HL3.out (Kd.C_alloc HI3.out _)).mono ?_; rintro e w4 ⟨rfl, hB4⟩; have HB4 := Aside0.mk (below_step (below_alloc HB3.out _) hB4); have HB24 := Aside0.mk (below_step (below_alloc HB23.out _) hB4); have HT16 := Aside0.mk (blk_below (blk_new wr _) hB4); have e0 := blk_cell HT16.out 0; have e1 := blk_cell HT16.out 1; have e2 := blk_cell HT16.out 2; have e3 := blk_cell HT16.out 3; have HF4 := Aside0.mk (Kd.C_below (Kd.C_alloc HI3.out _) hB4); clear hB4) | ((with_reducible refine gate_store (t := 37) (p := 6) (v := .tmp 59) rfl ?_); refine store4_event (cs := #[.string ⟨#[]⟩, .int .i64 0, .bool false, .slice none 0 0]) rfl rfl rfl rfl rfl (blk_below HG2.out HB24.out) size37 rfl (by intro q hq; simp at hq; rcases hq with rfl | rfl | rfl | rfl <;> rfl) ?_; intro w9 hb9 hg9 hs9; have HG9 := Aside0.mk hb9; have HB9 := Aside0.mk (grownB HB4.out hg9 (Nat.le_refl _)); clear hb9 hg9 hs9))
            exact endF rfl HG9.out rfl rfl rfl rfl ⟨find_none _ _, HB9.out⟩
        · have hcd : decide (0 ≤ cmpE x (wantE key seq)) = false := decide_eq_false hcm
          have HPN := Aside0.mk (show ∀ j, j < f + (i + 1) → ahd (l.getD j z37) (wantE key seq) from fun j hj => by
            by_cases e : j = f + i
            · rw [e, ← HXE.out]; exact (cmp_neg _ _).1 (by omega)
            · exact HP.out j (by omega))
          clear hcm
          go_wp2_with (first | (go_at_call 35; with_reducible refine (compare_c x key seq A3 c3 _ HL3.out (Kd.C_alloc HI3.out _)).mono ?_; rintro e w4 ⟨rfl, hB4⟩; have HB4 := Aside0.mk (below_step (below_alloc HB3.out _) hB4); have HB24 := Aside0.mk (below_step (below_alloc HB23.out _) hB4); have HT16 := Aside0.mk (blk_below (blk_new wr _) hB4); have e0 := blk_cell HT16.out 0; have e1 := blk_cell HT16.out 1; have e2 := blk_cell HT16.out 2; have e3 := blk_cell HT16.out 3; have HF4 := Aside0.mk (Kd.C_below (Kd.C_alloc HI3.out _) hB4); clear hB4))
          go_roundg (l.length - (f + i))
          case measure => exact HK.out
          case rel => exact ⟨i + 1, by go_num, ⟨by omega⟩, ⟨by omega⟩, HPN, HB4, HB24⟩
      · have ht : decide (i < l.length - f) = false := decide_eq_false (by omega)
        have ht2 : decide ((i : Int) < ((l.length - f : Nat) : Int)) = false := decide_eq_false (by omega)
        have hfin := HO.out
        rw [got_end l key seq (fun j hj => HP.out j (by omega))] at hfin
        subst hfin
        go_wp2_with (first | ((with_reducible refine gate_store (t := 37) (p := 6) (v := .tmp 59) rfl ?_); refine store4_event (cs := #[.string ⟨#[]⟩, .int .i64 0, .bool false, .slice none 0 0]) rfl rfl rfl rfl rfl (blk_below HG2.out HB23.out) size37 rfl (by intro q hq; simp at hq; rcases hq with rfl | rfl | rfl | rfl <;> rfl) ?_; intro w9 hb9 hg9 hs9; have HG9 := Aside0.mk hb9; have HB9 := Aside0.mk (grownB HB3.out hg9 (Nat.le_refl _)); clear hb9 hg9 hs9))
        exact endF rfl HG9.out rfl rfl rfl rfl ⟨find_none _ _, HB9.out⟩
theorem find_x (A : Option Addr) (c n : Nat) (b : List Int) (key : ByteArray) (seq : Int) (w : World) (hn : n = b.length) (hC : k8.C w A b.length b) (hc : b.length ≤ c) (hb : isB b) (hl : b.length ≤ 65536) (o : Option S37) (er : Int) (ho : foundP (decP b) key seq = (o, er)) (x : S37) (hx : x = o.getD z37) :
    Calls Try.prog 16 #[.slice A n c, .string key, .int .i64 seq] w fun e w' => ∃ A3 c3, e = .returned (.tuple #[.agg #[.string x.f0, .int .i64 x.f1, .bool x.f2, .slice A3 x.f3.length c3], .bool o.isSome, .int .i64 er]) ∧ x.f3.length ≤ c3 ∧ k8.C w' A3 x.f3.length x.f3 ∧ Below w.heap.size w w' := by
  subst hn hx
  refine (find_c A c b key seq w hC hc hb hl o er ho).mono ?_
  rintro e w' ⟨⟨A3, c3, rfl, h1, h2⟩, hB⟩
  exact ⟨A3, c3, rfl, h1, h2, hB⟩
end Go.Proofs.Ytoeidpenpehlpaa.PB
end
section
set_option linter.unusedVariables false
set_option linter.unusedSimpArgs false
namespace Go.Proofs.Ytoeidpenpehlpaa.PB
open Go.RowKit Go.Proofs.YtoeidpenpehlpaaW.PrintWords Go.Proofs.YtoeidpenpehlpaaW.PrintLast Go.Proofs.YtoeidpenpehlpaaW.PrintMore
theorem same_refl (a : S37) : lienref10_Same.f a.f0 a.f1 a.f2 a.f3 a.f0 a.f1 a.f2 a.f3 = some true := by
  unfold lienref10_Same.f
  rw [if_pos rfl, if_pos rfl, if_pos (by simp), beq_self_eq_true]
theorem same_c (x : S37) (A : Option Addr) (c : Nat) (A2 : Option Addr) (c2 : Nat) (w : World) (hc : x.f3.length ≤ c) (hC : k8.C w A x.f3.length x.f3) (hc2 : x.f3.length ≤ c2) (hC2 : k8.C w A2 x.f3.length x.f3) :
    Calls Try.prog 18 #[.agg #[.string x.f0, .int .i64 x.f1, .bool x.f2, .slice A x.f3.length c], .agg #[.string x.f0, .int .i64 x.f1, .bool x.f2, .slice A2 x.f3.length c2]] w fun e w' => e = .returned (.bool true) ∧ Below w.heap.size w w' :=
  lienref10_Same.calls x.f0 x.f1 x.f2 A c x.f3 x.f0 x.f1 x.f2 A2 c2 x.f3 true w hC hc hC2 hc2 (same_refl x)
end Go.Proofs.Ytoeidpenpehlpaa.PB
end
section
set_option linter.unusedVariables false
set_option linter.unusedSimpArgs false
namespace Go.Proofs.Ytoeidpenpehlpaa.PB
open Go.RowKit Go.Proofs.YtoeidpenpehlpaaW.PrintWords Go.Proofs.YtoeidpenpehlpaaW.PrintLast Go.Proofs.YtoeidpenpehlpaaW.PrintMore
theorem few_c (k : Nat) (A : Option Addr) (c : Nat) (l r : List S37) (w : World) (hC : Kd.C k37 w A l.length l) (hc : l.length ≤ c) (h : lienlaw12_few.f k l = some r) :
    Calls Try.prog 8 #[.slice A l.length c] w fun e w' => ∃ A' c', e = .returned (.slice A' r.length c') ∧ r.length ≤ c' ∧ Kd.C k37 w' A' r.length r ∧ (0 < r.length → ∃ g, A' = some ⟨g, 0, none⟩) ∧ Below w.heap.size w w' := by
  refine (lienlaw12_few.calls k (fun _ => True) A c l r w (Kd.V_mk hc (F_of_C hC)) h).mono ?_
  rintro e w' ⟨v, rfl, hN, hB⟩
  obtain ⟨A', c', rfl, h1, h2⟩ := Kd.N_reads hN
  exact ⟨A', c', rfl, h1, h2, N_head hN, hB⟩
end Go.Proofs.Ytoeidpenpehlpaa.PB
end
section
set_option linter.unusedVariables false
set_option linter.unusedSimpArgs false
namespace Go.Proofs.Ytoeidpenpehlpaa.PB
open Go.RowKit Go.Proofs.YtoeidpenpehlpaaW.PrintWords Go.Proofs.YtoeidpenpehlpaaW.PrintLast Go.Proofs.YtoeidpenpehlpaaW.PrintMore
theorem Ev_sameAll (l : List S37) (hl : l.length ≤ 9223372036854775807) : ∀ m i, m + i = l.length → Ev (fun k => lienref10_SameAll.l0 k l l (i : Int)) true := by
  intro m
  induction m with
  | zero =>
    intro i hm
    refine Ev.step (f := fun _ => some true) (fun k => ?_) (Ev.now _)
    rw [lienref10_SameAll.l0, if_neg (by omega)]
  | succ m ih =>
    intro i hm
    refine Ev.step (f := fun k => lienref10_SameAll.l0 k l l ((i + 1 : Nat) : Int)) (fun k => ?_) (ih (i + 1) (by omega))
    rw [lienref10_SameAll.l0, if_pos (by omega), if_pos (by omega), if_pos (by omega), same_refl]
    simp only [Option.bind_some, if_true]
    rw [w_next _ (by omega)]
theorem sameAll_ev (l : List S37) (hl : l.length ≤ 9223372036854775807) : Ev (fun k => lienref10_SameAll.f k l l) true :=
  Ev.congr (fun k => by rw [lienref10_SameAll.f, if_pos rfl]; rfl) (Ev_sameAll l hl l.length 0 (by omega))
theorem Ev_few (l : List S37) (hl : l.length ≤ 9223372036854775807) : ∀ m i out, m + i = l.length → i ≤ 70 → out.length ≤ i → (∀ e ∈ out, e ∈ l) → ∃ r : List S37, Ev (fun k => lienlaw12_few.l0 k l out (i : Int)) r ∧ r.length ≤ 70 ∧ ∀ e ∈ r, e ∈ l := by
  intro m
  induction m with
  | zero =>
    intro i out hm hi ho hs
    refine ⟨out, Ev.step (f := fun k => lienlaw12_few.j1 k l out (i : Int) false) (fun k => ?_) (Ev.step (f := fun _ => some out) (fun k => ?_) (Ev.now _)), by omega, hs⟩
    · rw [lienlaw12_few.l0, if_neg (by omega)]
    · rw [lienlaw12_few.j1, if_neg (by decide)]
  | succ m ih =>
    intro i out hm hi ho hs
    by_cases h70 : i < 70
    · have hD : rd_T37 l (i : Int) ∈ l := by rw [rdT_D, List.getD_eq_getElem?_getD, List.getElem?_eq_getElem (by omega)]; exact List.getElem_mem _
      by_cases h1 : ((rd_T37 l (i : Int)).f0.size : Int) ≤ 200 ∧ ((rd_T37 l (i : Int)).f3.length : Int) ≤ 400
      · obtain ⟨r, hr, hr2⟩ := ih (i + 1) (out ++ [rd_T37 l (i : Int)]) (by omega) (by omega) (by simp; omega) (fun e he => by
          rcases List.mem_append.1 he with he | he
          · exact hs e he
          · rw [List.mem_singleton.1 he]; exact hD)
        refine ⟨r, Ev.step (f := fun k => lienlaw12_few.j1 k l out (i : Int) true) (fun k => ?_) (Ev.step (f := fun k => lienlaw12_few.l0 k l (out ++ [rd_T37 l (i : Int)]) ((i + 1 : Nat) : Int)) (fun k => ?_) hr), hr2⟩
        · rw [lienlaw12_few.l0, if_pos (by omega), decide_eq_true (by omega)]
        · rw [lienlaw12_few.j1, if_pos rfl, if_pos (by omega), if_pos (by omega), if_pos h1.1, if_pos h1.2, if_pos (by omega), w_next _ (by omega)]
      · obtain ⟨r, hr, hr2⟩ := ih (i + 1) out (by omega) (by omega) (by omega) hs
        refine ⟨r, Ev.step (f := fun k => lienlaw12_few.j1 k l out (i : Int) true) (fun k => ?_) (Ev.step (f := fun k => lienlaw12_few.l0 k l out ((i + 1 : Nat) : Int)) (fun k => ?_) hr), hr2⟩
        · rw [lienlaw12_few.l0, if_pos (by omega), decide_eq_true (by omega)]
        · rw [lienlaw12_few.j1, if_pos rfl, if_pos (by omega), if_pos (by omega), w_next _ (by omega)]
          by_cases h2 : ((rd_T37 l (i : Int)).f0.size : Int) ≤ 200
          · rw [if_pos h2, if_neg (fun h => h1 ⟨h2, h⟩)]
          · rw [if_neg h2]
    · refine ⟨out, Ev.step (f := fun k => lienlaw12_few.j1 k l out (i : Int) false) (fun k => ?_) (Ev.step (f := fun _ => some out) (fun k => ?_) (Ev.now _)), by omega, hs⟩
      · rw [lienlaw12_few.l0, if_pos (by omega), decide_eq_false (by omega)]
      · rw [lienlaw12_few.j1, if_neg (by decide)]
theorem few_any (A : Option Addr) (c : Nat) (l : List S37) (w : World) (hC : Kd.C k37 w A l.length l) (hc : l.length ≤ c) :
    Calls Try.prog 8 #[.slice A l.length c] w fun e w' => ∃ A' c' r, e = .returned (.slice A' (List.length r) c') ∧ r.length ≤ c' ∧ Kd.C k37 w' A' r.length r ∧ (0 < r.length → ∃ g, A' = some ⟨g, 0, none⟩) ∧ r.length ≤ 70 ∧ (∀ e ∈ r, e ∈ l) ∧ Below w.heap.size w w' := by
  obtain ⟨r, hr, h70, hm⟩ := Ev_few l hC.2.1 l.length 0 [] (by omega) (by omega) (by simp) (fun e he => by cases he)
  obtain ⟨k, hk⟩ := hr.rounds
  refine (few_c k A c l r w hC hc hk).mono ?_
  rintro e w' ⟨A', c', rfl, h1, h2, h4, h3⟩
  exact ⟨A', c', r, rfl, h1, h2, h4, h70, hm, h3⟩
theorem sameAll_c (A : Option Addr) (c : Nat) (A2 : Option Addr) (c2 : Nat) (l : List S37) (w : World) (hC : Kd.C k37 w A l.length l) (hc : l.length ≤ c) (hC2 : Kd.C k37 w A2 l.length l) (hc2 : l.length ≤ c2) :
    Calls Try.prog 15 #[.slice A l.length c, .slice A2 l.length c2] w fun e w' => e = .returned (.bool true) ∧ Below w.heap.size w w' := by
  obtain ⟨k, hk⟩ := (sameAll_ev l hC.2.1).rounds
  exact lienref10_SameAll.calls k A c l A2 c2 l true w hC hc hC2 hc2 hk
end Go.Proofs.Ytoeidpenpehlpaa.PB
end
section
set_option linter.unusedVariables false
set_option linter.unusedSimpArgs false
namespace Go.Proofs.Ytoeidpenpehlpaa.PB
open Go.RowKit Go.Proofs.YtoeidpenpehlpaaW.PrintWords Go.Proofs.YtoeidpenpehlpaaW.PrintLast Go.Proofs.YtoeidpenpehlpaaW.PrintMore
theorem got_self (l : List S37) (hf : fineL l = true) (p : Nat) (hp : p < l.length) : gotL l (l.getD p z37).f0 (l.getD p z37).f1 = some (l.getD p z37) := by
  refine got_hit l _ _ p hp (fun j hj => fine_lt hf hj hp) (fun h => ?_) rfl
  unfold ahd at h
  rw [if_pos (show (l.getD p z37).f0.toList = (wantE (l.getD p z37).f0 (l.getD p z37).f1).f0.toList from rfl)] at h
  have : (l.getD p z37).f1 < (l.getD p z37).f1 := h
  omega
theorem encF_len (l : List S37) (hf : fineL l = true) : ∀ m i out st, m + i = l.length → (encF l m i out st).length ≤ out.length + st.length + m * 372 + 1 := by
  intro m
  induction m with
  | zero => intro i out st _; rw [encF]; simp; omega
  | succ m ih =>
    intro i out st hm
    rw [encF]
    have h1 := ih (i + 1) (out ++ entB i (l.getD (i - 1) z37).f0 (l.getD i z37)) (if i % 8 = 0 then st ++ fix2 out.length else st) (by omega)
    have h2 := entB_len i (l.getD (i - 1) z37).f0 (l.getD i z37) (fine_chk hf (by omega))
    have h3 : (if i % 8 = 0 then st ++ fix2 out.length else st).length ≤ st.length + 2 := by
      split
      · rw [List.length_append, fix2_len]; omega
      · omega
    rw [List.length_append] at h1
    omega
theorem encB_len (l : List S37) (hf : fineL l = true) : (encB l).length ≤ 65536 := by
  have h := encF_len l hf l.length 0 [] [] (by omega)
  have h2 := fine_len hf
  unfold encB
  simp only [List.length_nil] at h
  omega
theorem enc_yes2 (A : Option Addr) (c : Nat) (l : List S37) (w : World) (hC : Kd.C k37 w A l.length l) (hc : l.length ≤ c) (hf : fineL l = true) :
    Calls Try.prog 9 #[.slice A l.length c] w fun e w' => ∃ A' c', e = .returned (.tuple #[.slice A' (encB l).length c', .int .i64 0]) ∧ (encB l).length ≤ c' ∧ k8.C w' A' (encB l).length (encB l) ∧ Below w.heap.size w w' := by
  obtain ⟨k, hk⟩ := (enc_ev l hC.2.1).rounds
  rw [show encR l = (encB l, 0) from if_pos hf] at hk
  refine (block_Encode.calls k A c l _ _ w hC hc hk).mono ?_
  rintro e w' ⟨v, rfl, hR, hB⟩
  obtain ⟨A', c', rfl⟩ := Kd.R_slice hR
  exact ⟨A', c', rfl, (Kd.R_reads' hR).2.1, (Kd.R_reads' hR).2.2, hB⟩
theorem enc_no2 (A : Option Addr) (c : Nat) (l : List S37) (w : World) (hC : Kd.C k37 w A l.length l) (hc : l.length ≤ c) (hf : ¬ fineL l = true) :
    Calls Try.prog 9 #[.slice A l.length c] w fun e w' => ∃ A' c', e = .returned (.tuple #[.slice A' 0 c', .int .i64 120]) ∧ Below w.heap.size w w' := by
  obtain ⟨k, hk⟩ := (enc_ev l hC.2.1).rounds
  rw [show encR l = ([], 120) from if_neg hf] at hk
  refine (block_Encode.calls k A c l _ _ w hC hc hk).mono ?_
  rintro e w' ⟨v, rfl, hR, hB⟩
  obtain ⟨A', c', rfl⟩ := Kd.R_slice hR
  exact ⟨A', c', rfl, hB⟩
set_option maxHeartbeats 4000000 in
set_option maxRecDepth 100000 in
theorem back_c (A : Option Addr) (c : Nat) (l : List S37) (a : Nat) (w : World) (hC : Kd.C k37 w A l.length l) (hc : l.length ≤ c) (hb : okB l) (ha : a < 256) :
    Calls Try.prog 7 #[.slice A l.length c, .int .u8 a] w fun e w' => e = .returned (.bool true) ∧ Below w.heap.size w w' := by
  have hnot : ∀ (x : Bool) (w : World), (Op.unary .not (.bool x)).run Try.prog w = .ok (.bool (!x)) w := fun _ _ => rfl
  have HC := Aside0.mk hC
  have HO := Aside0.mk hb
  have hai : (a : Int) < 256 := by omega
  clear hC hb
  go_enter Try.func7, Try.ntmps7
  go_wp2_with fail
  refine (few_any A c l _ HC.out hc).mono ?_
  rintro e w1 ⟨A1, c1, r, rfl, hc1, hC1, hh1, h70, hm, hB1⟩
  have HB1 := Aside0.mk hB1
  have HC1 := Aside0.mk hC1
  have Hc1 := Aside0.mk hc1
  have hok : okB r := fun e he => HO.out e (hm e he)
  by_cases hf : fineL r = true
  · have hlen := fine_len hf
    obtain ⟨g, rfl⟩ := hh1 (by omega)
    have HF := Aside0.mk hf
    have HD := Aside0.mk (dec_full r hf hok).1
    have HE := Aside0.mk (encB_len r hf)
    have hp : a % r.length < r.length := Nat.mod_lt _ (by omega)
    obtain ⟨p, hpe⟩ : ∃ p, p = a % r.length := ⟨_, rfl⟩
    have hpl : p < r.length := by omega
    obtain ⟨x, hx⟩ : ∃ x, x = r.getD p z37 := ⟨_, rfl⟩
    have HG := Aside0.mk (show foundP (decP (encB r)) x.f0 x.f1 = ((some x : Option S37), (0 : Int)) from by rw [HD.out]; show (gotL r x.f0 x.f1, (0 : Int)) = _; rw [hx, got_self r hf p hpl])
    have hpi : (a : Int) % (r.length : Int) = ((p : Nat) : Int) := by rw [hpe]; omega
    have hp0 : (0 : Int) ≤ ((p : Nat) : Int) := by omega
    have hp1 : ((p : Nat) : Int) < (r.length : Int) := by omega
    have hr64 : (r.length : Int) ≤ 64 := by omega
    have hr1 : (1 : Int) ≤ (r.length : Int) := by omega
    have hrz : ((r.length : Int) == 0) = false := by rw [beq_eq_false_iff_ne]; omega
    have hrz2 : ¬ ((r.length : Int) = 0) := by omega
    have HX := Aside0.mk hx
    have HPL := Aside0.mk hpl
    clear hC1 hc1 hh1 h70 hm hB1 hok hf hlen hp hpe hpl hx
    go_wp2_with (first | (go_at_call 9; with_reducible refine (enc_yes2 (some ⟨g, 0, none⟩) c1 r _ HC1.out Hc1.out HF.out).mono ?_; rintro e w2 ⟨A2, c2, rfl, hc2, hE2, hB2⟩; have HB2 := Aside0.mk (below_step HB1.out hB2); have HC2 := Aside0.mk (Kd.C_below HC1.out hB2); have HE2 := Aside0.mk hE2; have Hc2 := Aside0.mk hc2; clear hc2 hE2 hB2) | (go_at_call 11; with_reducible refine (awake_c _).mono ?_; rintro e w3 ⟨rfl, hB3⟩; have HB3 := Aside0.mk (below_step HB2.out hB3); have HC3 := Aside0.mk (Kd.C_below HC2.out hB3); have HE3 := Aside0.mk (Kd.C_below HE2.out hB3); clear hB3) | (go_at_call 13; with_reducible refine (dec_yes A2 c2 _ (encB r) _ rfl HE3.out Hc2.out (encB_isB _) HE.out r HD.out).mono ?_; rintro e w4 ⟨A4, c4, rfl, hc4, hC4, _, hB4⟩; have HB4 := Aside0.mk (below_step HB3.out hB4); have HC4 := Aside0.mk (Kd.C_below HC3.out hB4); have HE4 := Aside0.mk (Kd.C_below HE3.out hB4); have HD4 := Aside0.mk hC4; have Hc4 := Aside0.mk hc4; clear hB4 hC4 hc4) | (go_at_call 15; with_reducible refine (sameAll_c A4 c4 (some ⟨g, 0, none⟩) c1 r _ HD4.out Hc4.out HC4.out Hc1.out).mono ?_; rintro e w5 ⟨rfl, hB5⟩; have HB5 := Aside0.mk (below_step HB4.out hB5); have HC5 := Aside0.mk (Kd.C_below HC4.out hB5); have HE5 := Aside0.mk (Kd.C_below HE4.out hB5); clear hB5; (obtain ⟨A6, c6, x0, x1, x2, x3, hl6, hC6⟩ := cells_at HC5.out p HPL.out x HX.out); have HL6 := Aside0.mk hl6; have HC6 := Aside0.mk hC6; have HT9 := Aside0.mk (blk_new w5 (.cells #[.string x.f0, .int .i64 x.f1, .bool x.f2, .slice A6 x.f3.length c6] 37)); clear hl6 hC6) | (go_at_call 16; with_reducible refine (find_x A2 c2 _ (encB r) x.f0 x.f1 _ rfl (Kd.C_alloc HE5.out _) Hc2.out (encB_isB _) HE.out (some x) 0 HG.out x rfl).mono ?_; rintro e w6 ⟨A7, c7, rfl, hl7, hC7, hB6⟩; have HB6 := Aside0.mk (below_step (below_alloc HB5.out _) hB6); have HC66 := Aside0.mk (Kd.C_below (Kd.C_alloc HC6.out _) hB6); have HC7 := Aside0.mk hC7; have HL7 := Aside0.mk hl7; have d0 : ∀ o, (w6.alloc o).cell? ⟨w5.heap.size, 0, none⟩ = some (.string x.f0) := (fun o => (blk_cell (blk_alloc (blk_below HT9.out hB6) o) 0).trans rfl); have d1 : ∀ o, (w6.alloc o).cell? ⟨w5.heap.size, 1, none⟩ = some (.int .i64 x.f1) := (fun o => (blk_cell (blk_alloc (blk_below HT9.out hB6) o) 1).trans rfl); have d2 : ∀ o, (w6.alloc o).cell? ⟨w5.heap.size, 2, none⟩ = some (.bool x.f2) := (fun o => (blk_cell (blk_alloc (blk_below HT9.out hB6) o) 2).trans rfl); have d3 : ∀ o, (w6.alloc o).cell? ⟨w5.heap.size, 3, none⟩ = some (.slice A6 x.f3.length c6) := (fun o => (blk_cell (blk_alloc (blk_below HT9.out hB6) o) 3).trans rfl); clear hB6 hC7 hl7) | (go_at_call 18; with_reducible refine (same_c x A6 c6 A7 c7 _ HL6.out (Kd.C_alloc HC66.out _) HL7.out (Kd.C_alloc HC7.out _)).mono ?_; rintro e w7 ⟨rfl, hB7⟩; have HB7 := Aside0.mk (below_step (below_alloc HB6.out _) hB7); clear hB7))
    go_ret
    exact ⟨rfl, HB7.out⟩
  · have HF := Aside0.mk hf
    clear hC1 hc1 hh1 h70 hm hB1 hok hf
    go_wp2_with (first | (go_at_call 9; with_reducible refine (enc_no2 A1 c1 r _ HC1.out Hc1.out HF.out).mono ?_; rintro e w2 ⟨A2, c2, rfl, hB2⟩; have HB2 := Aside0.mk (below_step HB1.out hB2); clear hB2) | (go_at_call 11; with_reducible refine (awake_c _).mono ?_; rintro e w3 ⟨rfl, hB3⟩; have HB3 := Aside0.mk (below_step HB2.out hB3); clear hB3))
    go_ret
    exact ⟨rfl, HB3.out⟩
end Go.Proofs.Ytoeidpenpehlpaa.PB
end
section
set_option linter.unusedVariables false
namespace Go.Proofs.Ytoeidpenpehlpaa.PB
open Go.RowKit Go.Proofs.YtoeidpenpehlpaaW.PrintWords Go.Proofs.Ytoeidpenpehlpaa.Opn
theorem back_w (A : Option Addr) (c : Nat) (l : List S37) {w : World} (hC : Kd.C k37 w A l.length l) (hc : l.length ≤ c) (hb : okB l) (a : Int) (ha : (Lit.int .u8 a).wf = true) (w2 : World) (h : w2 = w := by rfl) : Calls Try.prog 7 #[.slice A l.length c, .int .u8 a] w2 fun e w' => e = .returned (.bool true) ∧ Below w2.heap.size w2 w' := by
  subst h
  have h2 : 0 ≤ a ∧ a < 256 := by
    simp [Lit.wf, IntKind.min, IntKind.max, IntKind.signed, IntKind.bits] at ha
    omega
  obtain ⟨n, rfl⟩ := Int.eq_ofNat_of_zero_le h2.1
  exact back_c A c l n _ hC hc hb (by omega)
end Go.Proofs.Ytoeidpenpehlpaa.PB
end
