/- What an argument of a statement reads as: whole numbers, bools, strings, slices and structs of these, as kinds; with the bounds that the row's weights give. -/
import Derived.Test.YtcfokcdmkhljoaaWWords
import Derived.SizedLaws
import Derived.Deep.Slices
import Derived.ChangeSame
import Derived.ChangeArms
namespace Go.Proofs.Ytcfokcdmkhljoaa.Opn
open Go.RowKit Go.Proofs.YtcfokcdmkhljoaaW.PrintWords Go.ChangeShapes

/-- Whatever reads as data of type t is of kind d and meets G. -/
structure Opens {α : Type} (P : Program) (t : TypeId) (d : Kd α) (G : α → Prop) : Prop where
  out : ∀ {H : Type} (enc : TypeId × Value → H) (w : World) (fuel : Nat) (cs : List Value) (x : DataW H × List MemPlace), DataW.trod enc P w 0 (fun _ => true) true fuel t cs = some x → (x.1.weights P t).all (· ≤ reachBytes) = true → ∃ a : α, d.K w a cs ∧ G a

theorem opens_int {P : Program} {t : TypeId} {k : IntKind} (ht : P.underlying t = some (.int k)) : Opens P t (Kd.int k) (fun n => (Lit.int k n).wf = true) := by
  constructor
  intro H enc w fuel cs x h _
  obtain ⟨n, rfl, _, hw⟩ := DataW.trod_int ht h
  exact ⟨n, rfl, hw⟩
theorem opens_bool {P : Program} {t : TypeId} (ht : P.underlying t = some .bool) : Opens P t Kd.bool (fun _ => True) := by
  constructor
  intro H enc w fuel cs x h _
  obtain ⟨n, rfl, _⟩ := DataW.trod_bool ht h
  exact ⟨n, rfl, trivial⟩
theorem opens_string {P : Program} {t : TypeId} (ht : P.underlying t = some .string) : Opens P t Kd.string (fun s => s.size ≤ 140737488351232) := by
  constructor
  intro H enc w fuel cs x h hw
  obtain ⟨s, rfl, rfl, _⟩ := DataW.trod_string ht h
  refine ⟨s, rfl, ?_⟩
  simp only [DataW.weights, List.all_cons, List.all_nil, Bool.and_true, decide_eq_true_eq] at hw
  rw [data_length] at hw
  exact hw
theorem all_mem {H : Type} {P : Program} {e : TypeId} {l : List (DataW H)} {d : DataW H} (hd : d ∈ l) (h : (DataW.weightsAll P e l).all (· ≤ reachBytes) = true) : (d.weights P e).all (· ≤ reachBytes) = true := by
  induction l with
  | nil => cases hd
  | cons y l ih =>
    simp only [DataW.weightsAll, List.all_append, Bool.and_eq_true] at h
    rcases List.mem_cons.1 hd with rfl | hd
    · exact h.1
    · exact ih hd h.2
theorem pick_all {α : Type} {n : Nat} {p : Nat → α → Prop} (h : ∀ i, i < n → ∃ a, p i a) : ∃ l : List α, l.length = n ∧ ∀ i a, l[i]? = some a → p i a := by
  induction n with
  | zero => exact ⟨[], rfl, fun i a h => by simp at h⟩
  | succ n ih =>
    obtain ⟨l, hl, hp⟩ := ih (fun i hi => h i (by omega))
    obtain ⟨a, ha⟩ := h n (by omega)
    refine ⟨l ++ [a], by simp [hl], fun i b hb => ?_⟩
    rcases Nat.lt_or_ge i l.length with hi | hi
    · rw [List.getElem?_append_left hi] at hb
      exact hp i b hb
    · have hi2 : i = n := by
        have := (List.getElem?_eq_some_iff.1 hb).1
        simp at this
        omega
      subst hi2
      rw [← hl] at hb
      simp at hb
      rw [← hb]
      exact ha
/-- A slice: as many elements as its weight allows, each of its kind. -/
theorem opens_slice {α : Type} {P : Program} {t e e' : TypeId} {d : Kd α} {G : α → Prop} {B : Nat} (ht : P.underlying t = some (.slice e)) (he : Opens P e d G) (hs : P.cellsOf e = d.sz) (hB : P.bytesOf e = B) :
    Opens P t (Kd.slice e' d) (fun l => l.length * B ≤ 140737488351232 ∧ l.length ≤ 9223372036854775807 ∧ ∀ a ∈ l, G a) := by
  constructor
  intro H enc w fuel cs x h hw
  rcases Deep.open_slice ht h with ⟨rfl, rfl⟩ | ⟨a, len, cap, m, n, D, Pl, rfl, hb, hl, hm, hmm, rfl, hx⟩
  · exact ⟨[], ⟨none, 0, rfl, Nat.le_refl _, rfl, by simp, fun h => absurd h (Nat.lt_irrefl 0)⟩, by simp, by simp, by simp⟩
  · simp only [DataW.weights, ht, List.all_cons, List.all_append, Bool.and_eq_true, decide_eq_true_eq, List.length_map, List.length_range] at hw
    obtain ⟨hw0, hw1, hw2⟩ := hw
    have hle : len ≤ m := by rw [hmm]; split <;> omega
    have hone : ∀ i, i < len → ∃ y : α, (∃ cs', cs'.length = d.sz ∧ (∀ j u, cs'[j]? = some u → w.cell? (a.add (i * d.sz + j)) = some u) ∧ d.K w y cs') ∧ G y := by
      intro i hi
      obtain ⟨cs', h1, h2⟩ := hx i (by omega)
      obtain ⟨y, hK, hG⟩ := he.out enc w n cs' _ h2 (all_mem (List.mem_map.2 ⟨i, List.mem_range.2 hi, rfl⟩) hw1)
      have hlen := d.K_len hK
      refine ⟨y, ⟨cs', hlen, fun j u hj => ?_, hK⟩, hG⟩
      obtain ⟨_, hl2, hc2⟩ := World.cells?_some h1
      have hj2 : j < P.cellsOf e := by
        have := (List.getElem?_eq_some_iff.1 hj).1
        omega
      have := hc2 j
      rw [← add_add, ← hs]
      simpa [hj] using hc2 j hj2
    obtain ⟨l, hll, hp⟩ := pick_all hone
    have hmx : maxLen = 9223372036854775807 := rfl
    subst hll
    refine ⟨l, ⟨some a, cap, rfl, hl, rfl, by omega, fun _ => ⟨a, rfl, fun j p hj => ?_⟩⟩, ?_, by omega, fun y hy => ?_⟩
    · obtain ⟨⟨cs', h1, h2, h3⟩, _⟩ := hp j p hj
      exact ⟨cs', h1, h3, h2⟩
    · rw [hB] at hw0
      refine Nat.le_trans (Nat.mul_le_mul_right _ ?_) hw0
      omega
    · obtain ⟨j, hj⟩ := List.mem_iff_getElem?.1 hy
      exact (hp j y hj).2
/-- Fields from a cell on: the last one, and one ahead of others. -/
structure Fields {α : Type} (P : Program) (o : Nat) (fs : List Field) (d : Kd α) (G : α → Prop) : Prop where
  out : ∀ {H : Type} (enc : TypeId × Value → H) (w : World) (fuel : Nat) (cs : List Value) (xs : List (DataW H × List MemPlace)), cs.length = o + d.sz →
    (∀ (i : Nat) (f : Field), fs[i]? = some f → DataW.trod enc P w 0 (fun _ => true) true fuel f.type ((cs.drop f.offset).take (P.cellsOf f.type)) = xs[i]?) → xs.length = fs.length →
    (DataW.weightsEach P (fs.map (·.type)) (xs.map (·.1))).all (· ≤ reachBytes) = true → ∃ a : α, d.K w a (cs.drop o) ∧ G a
theorem fields_last {α : Type} {P : Program} {o : Nat} {f : Field} {d : Kd α} {G : α → Prop} (ho : f.offset = o) (hs : P.cellsOf f.type = d.sz) (hf : Opens P f.type d G) : Fields P o [f] d G := by
  constructor
  intro H enc w fuel cs xs hl h hx hw
  match xs, hx with
  | [x0], _ =>
    have h0 := h 0 f rfl
    simp only [DataW.weightsEach, List.map_cons, List.map_nil, List.append_nil] at hw
    rw [ho, hs, List.take_of_length_le (by simp; omega)] at h0
    exact hf.out enc w fuel _ x0 h0 hw
theorem fields_cons {α β : Type} {P : Program} {o : Nat} {f : Field} {fs : List Field} {d : Kd α} {d2 : Kd β} {G : α → Prop} {G2 : β → Prop} (ho : f.offset = o) (hs : P.cellsOf f.type = d.sz) (hf : Opens P f.type d G) (hr : Fields P (o + d.sz) fs d2 G2) :
    Fields P o (f :: fs) (Kd.pair d d2) (fun p => G p.1 ∧ G2 p.2) := by
  constructor
  intro H enc w fuel cs xs hl h hx hw
  match xs, hx with
  | x0 :: xs, hx =>
    have h0 := h 0 f rfl
    simp only [DataW.weightsEach, List.map_cons, List.all_append, Bool.and_eq_true] at hw
    rw [ho, hs] at h0
    have hsz : (Kd.pair d d2).sz = d.sz + d2.sz := rfl
    obtain ⟨a, hK, hG⟩ := hf.out enc w fuel _ x0 h0 hw.1
    obtain ⟨b, hK2, hG2⟩ := hr.out enc w fuel cs xs (by omega) (fun i g hg => by simpa using h (i + 1) g (by simpa using hg)) (by simpa using hx) hw.2
    refine ⟨(a, b), ⟨_, _, ?_, hK, hK2⟩, hG, hG2⟩
    rw [← List.drop_drop]
    exact (List.take_append_drop _ _).symm
/-- A struct: its fields' kinds, told as a type of one's own. -/
theorem opens_struct {α β : Type} {P : Program} {t : TypeId} {fs : Array Field} {d : Kd α} {G : α → Prop} (f : β → α) (g : α → β) (hfg : ∀ a, f (g a) = a) (ht : P.underlying t = some (.struct fs)) (hs : P.cellsOf t = d.sz) (hf : Fields P 0 fs.toList d G) :
    Opens P t (Kd.iso d f) (fun b => G (f b)) := by
  constructor
  intro H enc w fuel cs x h hw
  obtain ⟨xs, n, _, rfl, hl, hlen, hx⟩ := DataW.trod_struct ht h
  simp only [DataW.weights, ht] at hw
  obtain ⟨a, hK, hG⟩ := hf.out enc w n cs xs (by rw [hl, hs, Nat.zero_add]) (fun i f hi => hx i f (by simpa using hi)) (by simpa using hlen) hw
  refine ⟨g a, ?_, by show G (f (g a)); rw [hfg]; exact hG⟩
  show d.K w (f (g a)) cs
  rw [hfg]
  exact hK
theorem opens_imp {α : Type} {P : Program} {t : TypeId} {d : Kd α} {G G' : α → Prop} (h : Opens P t d G) (hG : ∀ a, G a → G' a) : Opens P t d G' := by
  constructor
  intro H enc w fuel cs x hx hw
  obtain ⟨a, hK, hg⟩ := h.out enc w fuel cs x hx hw
  exact ⟨a, hK, hG a hg⟩
/-- An argument of a slice's type. -/
theorem arg_slice {H : Type} {enc : TypeId × Value → H} {α : Type} {P : Program} {t e' : TypeId} {d : Kd α} {G : List α → Prop} {w : World} {A : Option Addr} {n c : Nat} {x : DataW H} {ps : List MemPlace} (ho : Opens P t (Kd.slice e' d) G)
    (h : DataW.Trod enc P w 0 (fun _ => true) true t (.slice A n c) x ps) (hw : (x.weights P t).all (· ≤ reachBytes) = true) : ∃ l : List α, n = l.length ∧ n ≤ c ∧ d.C w A l.length l ∧ G l := by
  obtain ⟨fuel, hf⟩ := h
  obtain ⟨l, ⟨A2, c2, hcs, hl, hC⟩, hG⟩ := ho.out enc w fuel _ _ hf hw
  have e : (Value.slice A n c) = .slice A2 l.length c2 := by simpa [Value.cells] using hcs
  injection e with e1 e2 e3
  subst e1 e2 e3
  exact ⟨l, rfl, hl, hC, hG⟩
/-- An argument that is a struct by value. -/
theorem arg_agg {H : Type} {enc : TypeId × Value → H} {α : Type} {P : Program} {t : TypeId} {fs : Array Field} {d : Kd α} {G : α → Prop} {w : World} {r : Reach} {base : Nat} {v : Value} {x : DataW H} {ps : List MemPlace} (hu : P.underlying t = some (.struct fs)) (hok : Value.okWide P w r base t v) (ho : Opens P t d G)
    (h : DataW.Trod enc P w 0 (fun _ => true) true t v x ps) (hw : (x.weights P t).all (· ≤ reachBytes) = true) : ∃ (cs : List Value) (a : α), v = .agg cs.toArray ∧ d.K w a cs ∧ G a := by
  unfold Value.okWide at hok
  rw [hu] at hok
  obtain ⟨cs, rfl, _⟩ := hok
  obtain ⟨fuel, hf⟩ := h
  obtain ⟨a, hK, hG⟩ := ho.out enc w fuel _ _ hf hw
  exact ⟨cs.toList, a, by simp, by simpa [Value.cells] using hK, hG⟩
/-- The weights of one argument. -/
theorem weights_one {H : Type} {P : Program} {ts : List TypeId} {ds : List (DataW H)} (h : (DataW.weightsEach P ts ds).all (· ≤ reachBytes) = true) {j : Nat} {t : TypeId} {d : DataW H} (ht : ts[j]? = some t) (hd : ds[j]? = some d) : (d.weights P t).all (· ≤ reachBytes) = true :=
  List.all_eq_true.2 fun n hn => List.all_eq_true.1 h n (DataW.weights_mem_each ht hd n hn)
end Go.Proofs.Ytcfokcdmkhljoaa.Opn
