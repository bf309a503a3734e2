/- The claim by itself: plain laws and walks. -/
import Derived.Test.YtgnmdhjnpbnacaaNea
import Derived.Test.YtgnmdhjnpbnacaaNeb
import Derived.Test.YtgnmdhjnpbnacaaNec
import Derived.SizedLaws
import Derived.Deep.Slices
import Derived.ChangeSame
import Derived.ChangeArms
import Derived.Deep.DeepMust
import Derived.WalkLawsBesides
import Derived.Test.YtgnmdhjnpbnacaaProg
import Derived.Shelf.Sort.Plain
import Derived.Shelf.Slices.In.SortNone
import Derived.Sort.OwnSortedInts
import Derived.Deep.RegionHeld3
import Derived.BigRegion
set_option linter.unusedVariables false
set_option linter.unusedSimpArgs false
section
namespace Go.Proofs.Ytgnmdhjnpbnacaa.Opn
open Go.RowKit Go.Proofs.YtgnmdhjnpbnacaaW.PrintWords Go.ChangeShapes

/-- Whatever reads as data of type t is of kind d and meets G. -/
structure Opens {α : Type} (P : Program) (t : TypeId) (d : Kd α) (G : α → Prop) : Prop where
  out : ∀ {H : Type} (enc : TypeId × Value → H) (w : World) (fuel : Nat) (cs : List Value) (x : DataW H × List MemPlace), DataW.trod enc P w 0 (fun _ => true) true fuel t cs = some x → (x.1.weights P t).all (· ≤ reachBytes) = true → ∃ a : α, d.K w a cs ∧ G a

theorem opens_int {P : Program} {t : TypeId} {k : IntKind} (ht : P.underlying t = some (.int k)) : Opens P t (Kd.int k) (fun n => (Lit.int k n).wf = true) := by
  constructor
  intro H enc w fuel cs x h _
  obtain ⟨n, rfl, _, hw⟩ := DataW.trod_int ht h
  exact ⟨n, rfl, hw⟩
theorem opens_string {P : Program} {t : TypeId} (ht : P.underlying t = some .string) : Opens P t Kd.string (fun s => s.size ≤ 140737488351232) := by
  constructor
  intro H enc w fuel cs x h hw
  obtain ⟨s, rfl, rfl, _⟩ := DataW.trod_string ht h
  refine ⟨s, rfl, ?_⟩
  simp only [DataW.weights, List.all_cons, List.all_nil, Bool.and_true, decide_eq_true_eq] at hw
  rw [data_length] at hw
  exact hw
theorem all_mem {H : Type} {P : Program} {e : TypeId} {l : List (DataW H)} {d : DataW H} (hd : d ∈ l) (h : (DataW.weightsAll P e l).all (· ≤ reachBytes) = true) : (d.weights P e).all (· ≤ reachBytes) = true := by
  induction l with
  | nil => cases hd
  | cons y l ih =>
    simp only [DataW.weightsAll, List.all_append, Bool.and_eq_true] at h
    rcases List.mem_cons.1 hd with rfl | hd
    · exact h.1
    · exact ih hd h.2
theorem pick_all {α : Type} {n : Nat} {p : Nat → α → Prop} (h : ∀ i, i < n → ∃ a, p i a) : ∃ l : List α, l.length = n ∧ ∀ i a, l[i]? = some a → p i a := by
  induction n with
  | zero => exact ⟨[], rfl, fun i a h => by simp at h⟩
  | succ n ih =>
    obtain ⟨l, hl, hp⟩ := ih (fun i hi => h i (by omega))
    obtain ⟨a, ha⟩ := h n (by omega)
    refine ⟨l ++ [a], by simp [hl], fun i b hb => ?_⟩
    rcases Nat.lt_or_ge i l.length with hi | hi
    · rw [List.getElem?_append_left hi] at hb
      exact hp i b hb
    · have hi2 : i = n := by
        have := (List.getElem?_eq_some_iff.1 hb).1
        simp at this
        omega
      subst hi2
      rw [← hl] at hb
      simp at hb
      rw [← hb]
      exact ha
/-- A slice: as many elements as its weight allows, each of its kind. -/
theorem opens_slice {α : Type} {P : Program} {t e e' : TypeId} {d : Kd α} {G : α → Prop} {B : Nat} (ht : P.underlying t = some (.slice e)) (he : Opens P e d G) (hs : P.cellsOf e = d.sz) (hB : P.bytesOf e = B) :
    Opens P t (Kd.slice e' d) (fun l => l.length * B ≤ 140737488351232 ∧ l.length ≤ 9223372036854775807 ∧ ∀ a ∈ l, G a) := by
  constructor
  intro H enc w fuel cs x h hw
  rcases Deep.open_slice ht h with ⟨rfl, rfl⟩ | ⟨a, len, cap, m, n, D, Pl, rfl, hb, hl, hm, hmm, rfl, hx⟩
  · exact ⟨[], ⟨none, 0, rfl, Nat.le_refl _, rfl, by simp, fun h => absurd h (Nat.lt_irrefl 0)⟩, by simp, by simp, by simp⟩
  · simp only [DataW.weights, ht, List.all_cons, List.all_append, Bool.and_eq_true, decide_eq_true_eq, List.length_map, List.length_range] at hw
    obtain ⟨hw0, hw1, hw2⟩ := hw
    have hle : len ≤ m := by rw [hmm]; split <;> omega
    have hone : ∀ i, i < len → ∃ y : α, (∃ cs', cs'.length = d.sz ∧ (∀ j u, cs'[j]? = some u → w.cell? (a.add (i * d.sz + j)) = some u) ∧ d.K w y cs') ∧ G y := by
      intro i hi
      obtain ⟨cs', h1, h2⟩ := hx i (by omega)
      obtain ⟨y, hK, hG⟩ := he.out enc w n cs' _ h2 (all_mem (List.mem_map.2 ⟨i, List.mem_range.2 hi, rfl⟩) hw1)
      have hlen := d.K_len hK
      refine ⟨y, ⟨cs', hlen, fun j u hj => ?_, hK⟩, hG⟩
      obtain ⟨_, hl2, hc2⟩ := World.cells?_some h1
      have hj2 : j < P.cellsOf e := by
        have := (List.getElem?_eq_some_iff.1 hj).1
        omega
      have := hc2 j
      rw [← add_add, ← hs]
      simpa [hj] using hc2 j hj2
    obtain ⟨l, hll, hp⟩ := pick_all hone
    have hmx : maxLen = 9223372036854775807 := rfl
    subst hll
    refine ⟨l, ⟨some a, cap, rfl, hl, rfl, by omega, fun _ => ⟨a, rfl, fun j p hj => ?_⟩⟩, ?_, by omega, fun y hy => ?_⟩
    · obtain ⟨⟨cs', h1, h2, h3⟩, _⟩ := hp j p hj
      exact ⟨cs', h1, h3, h2⟩
    · rw [hB] at hw0
      refine Nat.le_trans (Nat.mul_le_mul_right _ ?_) hw0
      omega
    · obtain ⟨j, hj⟩ := List.mem_iff_getElem?.1 hy
      exact (hp j y hj).2
/-- Fields from a cell on: the last one, and one ahead of others. -/
structure Fields {α : Type} (P : Program) (o : Nat) (fs : List Field) (d : Kd α) (G : α → Prop) : Prop where
  out : ∀ {H : Type} (enc : TypeId × Value → H) (w : World) (fuel : Nat) (cs : List Value) (xs : List (DataW H × List MemPlace)), cs.length = o + d.sz →
    (∀ (i : Nat) (f : Field), fs[i]? = some f → DataW.trod enc P w 0 (fun _ => true) true fuel f.type ((cs.drop f.offset).take (P.cellsOf f.type)) = xs[i]?) → xs.length = fs.length →
    (DataW.weightsEach P (fs.map (·.type)) (xs.map (·.1))).all (· ≤ reachBytes) = true → ∃ a : α, d.K w a (cs.drop o) ∧ G a
theorem fields_last {α : Type} {P : Program} {o : Nat} {f : Field} {d : Kd α} {G : α → Prop} (ho : f.offset = o) (hs : P.cellsOf f.type = d.sz) (hf : Opens P f.type d G) : Fields P o [f] d G := by
  constructor
  intro H enc w fuel cs xs hl h hx hw
  match xs, hx with
  | [x0], _ =>
    have h0 := h 0 f rfl
    simp only [DataW.weightsEach, List.map_cons, List.map_nil, List.append_nil] at hw
    rw [ho, hs, List.take_of_length_le (by simp; omega)] at h0
    exact hf.out enc w fuel _ x0 h0 hw
theorem fields_cons {α β : Type} {P : Program} {o : Nat} {f : Field} {fs : List Field} {d : Kd α} {d2 : Kd β} {G : α → Prop} {G2 : β → Prop} (ho : f.offset = o) (hs : P.cellsOf f.type = d.sz) (hf : Opens P f.type d G) (hr : Fields P (o + d.sz) fs d2 G2) :
    Fields P o (f :: fs) (Kd.pair d d2) (fun p => G p.1 ∧ G2 p.2) := by
  constructor
  intro H enc w fuel cs xs hl h hx hw
  match xs, hx with
  | x0 :: xs, hx =>
    have h0 := h 0 f rfl
    simp only [DataW.weightsEach, List.map_cons, List.all_append, Bool.and_eq_true] at hw
    rw [ho, hs] at h0
    have hsz : (Kd.pair d d2).sz = d.sz + d2.sz := rfl
    obtain ⟨a, hK, hG⟩ := hf.out enc w fuel _ x0 h0 hw.1
    obtain ⟨b, hK2, hG2⟩ := hr.out enc w fuel cs xs (by omega) (fun i g hg => by simpa using h (i + 1) g (by simpa using hg)) (by simpa using hx) hw.2
    refine ⟨(a, b), ⟨_, _, ?_, hK, hK2⟩, hG, hG2⟩
    rw [← List.drop_drop]
    exact (List.take_append_drop _ _).symm
/-- A struct: its fields' kinds, told as a type of one's own. -/
theorem opens_struct {α β : Type} {P : Program} {t : TypeId} {fs : Array Field} {d : Kd α} {G : α → Prop} (f : β → α) (g : α → β) (hfg : ∀ a, f (g a) = a) (ht : P.underlying t = some (.struct fs)) (hs : P.cellsOf t = d.sz) (hf : Fields P 0 fs.toList d G) :
    Opens P t (Kd.iso d f) (fun b => G (f b)) := by
  constructor
  intro H enc w fuel cs x h hw
  obtain ⟨xs, n, _, rfl, hl, hlen, hx⟩ := DataW.trod_struct ht h
  simp only [DataW.weights, ht] at hw
  obtain ⟨a, hK, hG⟩ := hf.out enc w n cs xs (by rw [hl, hs, Nat.zero_add]) (fun i f hi => hx i f (by simpa using hi)) (by simpa using hlen) hw
  refine ⟨g a, ?_, by show G (f (g a)); rw [hfg]; exact hG⟩
  show d.K w (f (g a)) cs
  rw [hfg]
  exact hK
theorem opens_imp {α : Type} {P : Program} {t : TypeId} {d : Kd α} {G G' : α → Prop} (h : Opens P t d G) (hG : ∀ a, G a → G' a) : Opens P t d G' := by
  constructor
  intro H enc w fuel cs x hx hw
  obtain ⟨a, hK, hg⟩ := h.out enc w fuel cs x hx hw
  exact ⟨a, hK, hG a hg⟩
/-- An argument of a slice's type. -/
theorem arg_slice {H : Type} {enc : TypeId × Value → H} {α : Type} {P : Program} {t e' : TypeId} {d : Kd α} {G : List α → Prop} {w : World} {A : Option Addr} {n c : Nat} {x : DataW H} {ps : List MemPlace} (ho : Opens P t (Kd.slice e' d) G)
    (h : DataW.Trod enc P w 0 (fun _ => true) true t (.slice A n c) x ps) (hw : (x.weights P t).all (· ≤ reachBytes) = true) : ∃ l : List α, n = l.length ∧ n ≤ c ∧ d.C w A l.length l ∧ G l := by
  obtain ⟨fuel, hf⟩ := h
  obtain ⟨l, ⟨A2, c2, hcs, hl, hC⟩, hG⟩ := ho.out enc w fuel _ _ hf hw
  have e : (Value.slice A n c) = .slice A2 l.length c2 := by simpa [Value.cells] using hcs
  injection e with e1 e2 e3
  subst e1 e2 e3
  exact ⟨l, rfl, hl, hC, hG⟩
/-- An argument that is a struct by value. -/
theorem arg_agg {H : Type} {enc : TypeId × Value → H} {α : Type} {P : Program} {t : TypeId} {fs : Array Field} {d : Kd α} {G : α → Prop} {w : World} {r : Reach} {base : Nat} {v : Value} {x : DataW H} {ps : List MemPlace} (hu : P.underlying t = some (.struct fs)) (hok : Value.okWide P w r base t v) (ho : Opens P t d G)
    (h : DataW.Trod enc P w 0 (fun _ => true) true t v x ps) (hw : (x.weights P t).all (· ≤ reachBytes) = true) : ∃ (cs : List Value) (a : α), v = .agg cs.toArray ∧ d.K w a cs ∧ G a := by
  unfold Value.okWide at hok
  rw [hu] at hok
  obtain ⟨cs, rfl, _⟩ := hok
  obtain ⟨fuel, hf⟩ := h
  obtain ⟨a, hK, hG⟩ := ho.out enc w fuel _ _ hf hw
  exact ⟨cs.toList, a, by simp, by simpa [Value.cells] using hK, hG⟩
/-- The weights of one argument. -/
theorem weights_one {H : Type} {P : Program} {ts : List TypeId} {ds : List (DataW H)} (h : (DataW.weightsEach P ts ds).all (· ≤ reachBytes) = true) {j : Nat} {t : TypeId} {d : DataW H} (ht : ts[j]? = some t) (hd : ds[j]? = some d) : (d.weights P t).all (· ≤ reachBytes) = true :=
  List.all_eq_true.2 fun n hn => List.all_eq_true.1 h n (DataW.weights_mem_each ht hd n hn)
end Go.Proofs.Ytgnmdhjnpbnacaa.Opn
end
section
namespace Go.Proofs.Ytgnmdhjnpbnacaa.PB
open Go.RowKit Go.Proofs.YtgnmdhjnpbnacaaW.PrintWords Go.Proofs.YtgnmdhjnpbnacaaW.PrintLast Go.Proofs.YtgnmdhjnpbnacaaW.PrintMore
set_option linter.unusedVariables false
section
variable {P : Program} {ops : Array Oper} {rest : List Oper} {o : Oper} {a : Act} {Q : Exit → Act → World → Prop}
theorem store_agg_event {W : World} (hgd : o.guard = none) (hN : o.dst = none) {T e : TypeId} {p x : Operand} {cs cur : Array Value} {g : Nat} (ho : o.op = .store T p x)
    (hp : a.eval p = .pointer (some ⟨g, 0, none⟩)) (hx : a.eval x = .agg cs) (hb : W.heap[g]? = some (.cells cur e (0, 0)))
    (hi : (P.info? T).map (·.size) = some cs.size) (hn : cs.size ≤ cur.size) (h1 : ∀ q ∈ cs.toList, q.oneCell' = true)
    (h : ∀ w1, w1.heap[g]? = some (.cells (cs ++ cur.extract cs.size cur.size) e (0, 0)) → W.grownBy w1 (some g) → w1.heap.size = W.heap.size → wpList P ops Q rest a w1) : wpList P ops Q (o :: rest) a W := by
  have hrun := run_store_run (P := P) (w := W) (g := g) (o := 0) T (.agg cs) cs.toList hb rfl (by simpa using hi) (by simpa using hn) h1
  obtain ⟨cur', h3, h4, h5⟩ := setCells_row cs.toList 0 W cur hb (by simpa using hn)
  obtain ⟨s1, s2, s3, s4⟩ := setCells_same g cs.toList 0 W
  have e5 : cur' = cs ++ cur.extract cs.size cur.size := by
    apply Array.ext'
    rw [h5]
    simp
    rw [List.take_of_length_le (by simp)]
  rw [e5] at h3
  refine wpList_plain hgd fun K hK => ?_
  unfold Oper.wp execOp
  simp only [ho, hp, hx, Sem.run_bind, Sem.run_pure, Result.andThen_ok, hrun]
  show K (a.put o.dst undef) _
  rw [hN]
  exact hK a _ (h _ h3 ⟨s1, s2, s3, by rw [s4]; exact Nat.le_refl _, fun k _ hk => setCells_far cs.toList _ k (fun e => hk (by simp [e]))⟩ s4)
end
end Go.Proofs.Ytgnmdhjnpbnacaa.PB
end
section
set_option linter.unusedVariables false
set_option linter.unusedSimpArgs false
namespace Go.Proofs.Ytgnmdhjnpbnacaa.PB
open Go.RowKit Go.Proofs.YtgnmdhjnpbnacaaW.PrintWords Go.Proofs.YtgnmdhjnpbnacaaW.PrintLast Go.Proofs.YtgnmdhjnpbnacaaW.PrintMore
def limN (n : Int) : Int := if n = 0 then 3 else if n = 1 then 4 else if n = 2 then 8 else -1
theorem limit_c (n : Int) (w : World) (h0 : -9223372036854775808 ≤ n) (h1 : n ≤ 9223372036854775807) : Calls Try.prog 15 #[.int .i64 n] w fun e w' => e = .returned (.int .i64 (limN n)) ∧ Below w.heap.size w w' := by
  by_cases h : n = 0 ∨ n = 1 ∨ n = 2
  · rcases h with rfl | rfl | rfl
    all_goals
      go_enter Try.func15, Try.ntmps15
      go_wp2
      go_ret
      exact ⟨rfl, below_alloc (Below.refl _ _) _⟩
  · have e : limN n = -1 := by unfold limN; rw [if_neg (by omega), if_neg (by omega), if_neg (by omega)]
    rw [e]
    by_cases hn : n < 0
    · have t1 : decide (n < 0) = true := decide_eq_true hn
      go_enter Try.func15, Try.ntmps15
      go_wp2
      go_ret
      exact ⟨rfl, below_alloc (Below.refl _ _) _⟩
    · have t1 : decide (n < 0) = false := decide_eq_false hn
      have t2 : decide (3 ≤ n) = true := decide_eq_true (by omega)
      go_enter Try.func15, Try.ntmps15
      go_wp2
      go_ret
      exact ⟨rfl, below_alloc (Below.refl _ _) _⟩
end Go.Proofs.Ytgnmdhjnpbnacaa.PB
end
section
set_option linter.unusedVariables false
set_option linter.unusedSimpArgs false
namespace Go.Proofs.Ytgnmdhjnpbnacaa.PB
open Go.RowKit Go.Proofs.YtgnmdhjnpbnacaaW.PrintWords Go.Proofs.YtgnmdhjnpbnacaaW.PrintLast Go.Proofs.YtgnmdhjnpbnacaaW.PrintMore
theorem rdT_D (l : List S47) (i : Nat) : rd_T47 l (i : Int) = l.getD i z47 := by unfold rd_T47; rw [Int.toNat_natCast]
/-- element i of tables that are read: its cells where it lies, and what it leads to. -/
theorem at_F47 {w : World} {ok : Nat → Prop} {A : Option Addr} {n : Nat} {xs : List S47} (h : Kd.F k47 w ok A n xs) (i : Nat) (hi : i < n) (x : S47) (hx : x = xs.getD i z47) : ∃ ad A2 c2, A = some ad ∧ w.cell? (ad.add (i * 9)) = some (.int .i64 x.f0.f0) ∧ w.cell? ⟨(ad.add (i * 9)).block, (ad.add (i * 9)).off + 1, none⟩ = some (.int .i64 x.f0.f1) ∧ w.cell? ⟨(ad.add (i * 9)).block, (ad.add (i * 9)).off + 2, none⟩ = some (.slice A2 x.f0.f2.length c2) ∧ w.cell? ⟨(ad.add (i * 9)).block, (ad.add (i * 9)).off + 3, none⟩ = some (.int .i64 x.f1) ∧ w.cell? ⟨(ad.add (i * 9)).block, (ad.add (i * 9)).off + 4, none⟩ = some (.int .i64 x.f2) ∧ w.cell? ⟨(ad.add (i * 9)).block, (ad.add (i * 9)).off + 5, none⟩ = some (.int .i64 x.f3) ∧ w.cell? ⟨(ad.add (i * 9)).block, (ad.add (i * 9)).off + 6, none⟩ = some (.string x.f4) ∧ w.cell? ⟨(ad.add (i * 9)).block, (ad.add (i * 9)).off + 7, none⟩ = some (.string x.f5) ∧ w.cell? ⟨(ad.add (i * 9)).block, (ad.add (i * 9)).off + 8, none⟩ = some (.int .i64 x.f6) ∧ x.f0.f2.length ≤ c2 ∧ Kd.F k79 w ok A2 x.f0.f2.length x.f0.f2 := by
  subst hx
  obtain ⟨ad, c, rfl, hcl, hF, hcc, _⟩ := Kd.F_get h z47 (i : Int) (by omega) (by omega)
  simp only [Int.toNat_natCast] at hF hcc
  have hc : ∀ j u, c[j]? = some u → w.cell? (ad.add (i * 9 + j)) = some u := hcc
  obtain ⟨A2, c2, rfl, l2, g2⟩ := k47_openF hF
  exact ⟨ad, A2, c2, rfl, hc 0 _ rfl, by rw [← add_field _ _ 1 (by omega)]; exact hc 1 _ rfl, by rw [← add_field _ _ 2 (by omega)]; exact hc 2 _ rfl, by rw [← add_field _ _ 3 (by omega)]; exact hc 3 _ rfl, by rw [← add_field _ _ 4 (by omega)]; exact hc 4 _ rfl, by rw [← add_field _ _ 5 (by omega)]; exact hc 5 _ rfl, by rw [← add_field _ _ 6 (by omega)]; exact hc 6 _ rfl, by rw [← add_field _ _ 7 (by omega)]; exact hc 7 _ rfl, by rw [← add_field _ _ 8 (by omega)]; exact hc 8 _ rfl, l2, g2⟩
def okT (x : S47) : Prop := -9223372036854775808 ≤ x.f2 ∧ x.f2 ≤ 9223372036854775807
/-- what a function value answers of a table, from a world on -/
def Tells (g : Nat) (caps : Array Value) (w0 : World) (p : S47 → Bool) : Prop :=
  ∀ (x : S47) (A2 : Option Addr) (c2 : Nat) (W : World), okT x → Below w0.heap.size w0 W → Calls Try.prog g (#[.agg #[.int .i64 x.f0.f0, .int .i64 x.f0.f1, .slice A2 x.f0.f2.length c2, .int .i64 x.f1, .int .i64 x.f2, .int .i64 x.f3, .string x.f4, .string x.f5, .int .i64 x.f6]] ++ caps) W fun e w' => e = .returned (.bool (p x)) ∧ Below W.heap.size W w'
theorem filter_take (p : S47 → Bool) (l : List S47) (i : Nat) (hi : i < l.length) : (l.take (i + 1)).filter p = (l.take i).filter p ++ (if p (l.getD i z47) then [l.getD i z47] else []) := by
  have hD : l.getD i z47 = l[i] := by rw [List.getD_eq_getElem?_getD, List.getElem?_eq_getElem hi]; rfl
  rw [List.take_succ_eq_append_getElem hi, List.filter_append, hD]
  congr 1
  cases h : p l[i] <;> simp [h]
set_option maxHeartbeats 4000000 in
set_option maxRecDepth 100000 in
theorem of43 (c1 : Value) (n s : Int) (vl : Value) (A : Option Addr) (c : Nat) (l : List S47) (w : World) (p : S47 → Bool) (hp0 : Tells 43 #[c1] w p) (hq : ∀ x ∈ l, okT x) (hF : Kd.F k47 w (fun _ => True) A l.length l) (hc : l.length ≤ c) (hl : l.length ≤ 200) :
    Calls Try.prog 38 #[.agg #[.int .i64 n, .int .i64 s, vl, .slice A l.length c], .func (Fn.func 43) #[] #[c1]] w fun e w' => ∃ A' c', e = .returned (.slice A' (l.filter p).length c') ∧ Kd.N k47 47 w' w.heap.size (fun _ => True) (.slice A' (l.filter p).length c') (l.filter p) ∧ Below w.heap.size w w' := by
  have hp : ∀ (x : S47) (A2 : Option Addr) (c2 : Nat) (W : World), okT x → Below w.heap.size w W → Calls Try.prog 43 #[.agg #[.int .i64 x.f0.f0, .int .i64 x.f0.f1, .slice A2 x.f0.f2.length c2, .int .i64 x.f1, .int .i64 x.f2, .int .i64 x.f3, .string x.f4, .string x.f5, .int .i64 x.f6], c1] W fun e w' => e = .returned (.bool (p x)) ∧ Below W.heap.size W w' := hp0
  have HF := Aside0.mk (Kd.F_bound hF)
  have HP := Aside0.mk hp
  have HL := Aside0.mk hl
  have HQ := Aside0.mk hq
  have HB0 := Aside0.mk (below_alloc (Below.refl w.heap.size w) (.cells #[.int .i64 n, .int .i64 s, vl, .slice A l.length c] 25))
  clear hF hp hp0 hl hq
  go_enter Try.func38, Try.ntmps38
  go_wp2
  go_loopg [5, 11] (l.length + 1) (fun kq v5 v11 wr => ∃ i : Nat, v11 = .int .i64 i ∧ Aside0 (i ≤ l.length) ∧ Aside0 (l.length - i < kq) ∧ Aside0 (Kd.N k47 47 wr w.heap.size (fun _ => True) v5 ((l.take i).filter p)) ∧ Aside0 (Below w.heap.size w wr))
  case atStart => exact ⟨0, rfl, ⟨Nat.zero_le _⟩, ⟨by omega⟩, ⟨by simpa using Kd.N_nil _ _ _ _ _⟩, HB0⟩
  case round =>
    obtain ⟨i, rfl, HI, HK, HO, HB⟩ := hrel
    have hi := HI.out
    obtain ⟨Ao, co, rfl⟩ := Kd.N_slice HO.out
    by_cases hlt : i < l.length
    · have ht : decide (i < l.length) = true := decide_eq_true hlt
      have ht2 : decide ((i : Int) < (l.length : Int)) = true := decide_eq_true (by omega)
      obtain ⟨x, hx⟩ : ∃ x, x = l.getD i z47 := ⟨_, rfl⟩
      have HFr := Aside0.mk (Kd.F_step HF.out (fun k hk _ => HB.out.block k hk.2))
      obtain ⟨ad, A2, c2, rfl, x0, x1, x2, x3, x4, x5, x6, x7, x8, hl2, hF2⟩ := at_F47 HFr.out i hlt x hx
      have HL2 := Aside0.mk hl2
      have HF2 := Aside0.mk hF2
      have HX := Aside0.mk hx
      have HQX := Aside0.mk (HQ.out x (by rw [hx, List.getD_eq_getElem?_getD, List.getElem?_eq_getElem hlt]; exact List.getElem_mem _))
      have HLT := Aside0.mk (show ((l.take i).filter p).length ≤ l.length from Nat.le_trans (List.length_filter_le _ _) ((by rw [List.length_take]; omega)))
      have hi0 : (0 : Int) ≤ (i : Int) := by omega
      have hi1 : (i : Int) < (l.length : Int) := by omega
      have hi2 : (i : Int) ≤ 200 := by have := HL.out; omega
      have hft := filter_take p l i hlt
      rw [← hx] at hft
      clear hx hl2 hF2
      cases hpx : p x with
      | true =>
        rw [hpx] at hft
        have HPX := Aside0.mk hpx
        have HFT := Aside0.mk hft
        clear hft hpx
        go_wp2_with (first | (go_at_call 43; with_reducible refine (HP.out x A2 c2 _ HQX.out (below_alloc HB.out _)).mono ?_; (rw [HPX.out]); rintro e w2 ⟨rfl, hB2⟩; have HB2 := Aside0.mk (below_step (below_alloc HB.out _) hB2); have HO2 := Aside0.mk (Kd.N_below (Kd.N_alloc HO.out _) hB2); have HT := Aside0.mk (blk_below (blk_new wr _) hB2); have HF3 := Aside0.mk (Kd.F_below (Kd.F_alloc HF2.out _) hB2); have d0 := blk_cell HT.out 0; have d1 := blk_cell HT.out 1; have d2 := blk_cell HT.out 2; have d3 := blk_cell HT.out 3; have d4 := blk_cell HT.out 4; have d5 := blk_cell HT.out 5; have d6 := blk_cell HT.out 6; have d7 := blk_cell HT.out 7; have d8 := blk_cell HT.out 8; clear hB2) | ((with_reducible refine gate_builtin (b := .append) (xs := #[.tmp 18, .tmp 20]) rfl ?_); at_builtin; go_must (refine Kd.N_append k47 (w0 := w) (W := w2) w.heap.size rfl (.tmp 18) (.tmp 20) 23 47 (.agg #[.int .i64 0, .int .i64 0, .slice none 0 0, .int .i64 0, .int .i64 0, .int .i64 0, .string ⟨#[]⟩, .string ⟨#[]⟩, .int .i64 0]) 104 rfl Try.underlying23 info47 rfl (by decide) (by decide) (.slice Ao ((l.take i).filter p).length co) ((l.take i).filter p) x [.int .i64 x.f0.f0, .int .i64 x.f0.f1, .slice A2 x.f0.f2.length c2, .int .i64 x.f1, .int .i64 x.f2, .int .i64 x.f3, .string x.f4, .string x.f5, .int .i64 x.f6] (fun _ => True) (fun k => True ∧ k < w.heap.size) rfl (by first | rfl | (simp; rfl) | simp) (k47_mkF _ _ x HL2.out HF3.out) (fun k hk => ⟨trivial, fun e => absurd (Kd.N_base HO2.out k e.symm) (Nat.not_le_of_lt hk.2)⟩) (fun _ _ => trivial) HO2.out HB2.out HB2.out.size (by have := HL.out; have := HLT.out; omega) ?_); intro v9 w9 ho hb hg hat; have HO9 := Aside0.mk ho; have HB9 := Aside0.mk hb; clear ho hb hg hat))
        go_roundg (l.length - i)
        case measure => exact HK.out
        case rel => exact ⟨i + 1, by go_num, ⟨by omega⟩, ⟨by omega⟩, ⟨by rw [HFT.out]; exact HO9.out⟩, HB9⟩
      | false =>
        rw [hpx] at hft
        have HPX := Aside0.mk hpx
        have HFT := Aside0.mk hft
        clear hft hpx
        go_wp2_with (first | (go_at_call 43; with_reducible refine (HP.out x A2 c2 _ HQX.out (below_alloc HB.out _)).mono ?_; (rw [HPX.out]); rintro e w2 ⟨rfl, hB2⟩; have HB2 := Aside0.mk (below_step (below_alloc HB.out _) hB2); have HO2 := Aside0.mk (Kd.N_below (Kd.N_alloc HO.out _) hB2); have HT := Aside0.mk (blk_below (blk_new wr _) hB2); have HF3 := Aside0.mk (Kd.F_below (Kd.F_alloc HF2.out _) hB2); have d0 := blk_cell HT.out 0; have d1 := blk_cell HT.out 1; have d2 := blk_cell HT.out 2; have d3 := blk_cell HT.out 3; have d4 := blk_cell HT.out 4; have d5 := blk_cell HT.out 5; have d6 := blk_cell HT.out 6; have d7 := blk_cell HT.out 7; have d8 := blk_cell HT.out 8; clear hB2))
        go_roundg (l.length - i)
        case measure => exact HK.out
        case rel => exact ⟨i + 1, by go_num, ⟨by omega⟩, ⟨by omega⟩, ⟨by rw [HFT.out, if_neg (by decide), List.append_nil]; exact HO2.out⟩, HB2⟩
    · have ht : decide (i < l.length) = false := decide_eq_false hlt
      have ht2 : decide ((i : Int) < (l.length : Int)) = false := decide_eq_false (by omega)
      have HO2 := HO.out
      have hft : (l.take i).filter p = l.filter p := by rw [List.take_of_length_le (by omega)]
      rw [hft] at HO2 ⊢
      have HO3 := Aside0.mk HO2
      clear HO2 hft HO
      go_wp2
      go_ret
      exact ⟨Ao, co, rfl, HO3.out, HB.out⟩
set_option maxHeartbeats 4000000 in
set_option maxRecDepth 100000 in
theorem of48 (c1 c2_ : Value) (n s : Int) (vl : Value) (A : Option Addr) (c : Nat) (l : List S47) (w : World) (p : S47 → Bool) (hp0 : Tells 48 #[c1, c2_] w p) (hq : ∀ x ∈ l, okT x) (hF : Kd.F k47 w (fun _ => True) A l.length l) (hc : l.length ≤ c) (hl : l.length ≤ 200) :
    Calls Try.prog 38 #[.agg #[.int .i64 n, .int .i64 s, vl, .slice A l.length c], .func (Fn.func 48) #[] #[c1, c2_]] w fun e w' => ∃ A' c', e = .returned (.slice A' (l.filter p).length c') ∧ Kd.N k47 47 w' w.heap.size (fun _ => True) (.slice A' (l.filter p).length c') (l.filter p) ∧ Below w.heap.size w w' := by
  have hp : ∀ (x : S47) (A2 : Option Addr) (c2 : Nat) (W : World), okT x → Below w.heap.size w W → Calls Try.prog 48 #[.agg #[.int .i64 x.f0.f0, .int .i64 x.f0.f1, .slice A2 x.f0.f2.length c2, .int .i64 x.f1, .int .i64 x.f2, .int .i64 x.f3, .string x.f4, .string x.f5, .int .i64 x.f6], c1, c2_] W fun e w' => e = .returned (.bool (p x)) ∧ Below W.heap.size W w' := hp0
  have HF := Aside0.mk (Kd.F_bound hF)
  have HP := Aside0.mk hp
  have HL := Aside0.mk hl
  have HQ := Aside0.mk hq
  have HB0 := Aside0.mk (below_alloc (Below.refl w.heap.size w) (.cells #[.int .i64 n, .int .i64 s, vl, .slice A l.length c] 25))
  clear hF hp hp0 hl hq
  go_enter Try.func38, Try.ntmps38
  go_wp2
  go_loopg [5, 11] (l.length + 1) (fun kq v5 v11 wr => ∃ i : Nat, v11 = .int .i64 i ∧ Aside0 (i ≤ l.length) ∧ Aside0 (l.length - i < kq) ∧ Aside0 (Kd.N k47 47 wr w.heap.size (fun _ => True) v5 ((l.take i).filter p)) ∧ Aside0 (Below w.heap.size w wr))
  case atStart => exact ⟨0, rfl, ⟨Nat.zero_le _⟩, ⟨by omega⟩, ⟨by simpa using Kd.N_nil _ _ _ _ _⟩, HB0⟩
  case round =>
    obtain ⟨i, rfl, HI, HK, HO, HB⟩ := hrel
    have hi := HI.out
    obtain ⟨Ao, co, rfl⟩ := Kd.N_slice HO.out
    by_cases hlt : i < l.length
    · have ht : decide (i < l.length) = true := decide_eq_true hlt
      have ht2 : decide ((i : Int) < (l.length : Int)) = true := decide_eq_true (by omega)
      obtain ⟨x, hx⟩ : ∃ x, x = l.getD i z47 := ⟨_, rfl⟩
      have HFr := Aside0.mk (Kd.F_step HF.out (fun k hk _ => HB.out.block k hk.2))
      obtain ⟨ad, A2, c2, rfl, x0, x1, x2, x3, x4, x5, x6, x7, x8, hl2, hF2⟩ := at_F47 HFr.out i hlt x hx
      have HL2 := Aside0.mk hl2
      have HF2 := Aside0.mk hF2
      have HX := Aside0.mk hx
      have HQX := Aside0.mk (HQ.out x (by rw [hx, List.getD_eq_getElem?_getD, List.getElem?_eq_getElem hlt]; exact List.getElem_mem _))
      have HLT := Aside0.mk (show ((l.take i).filter p).length ≤ l.length from Nat.le_trans (List.length_filter_le _ _) ((by rw [List.length_take]; omega)))
      have hi0 : (0 : Int) ≤ (i : Int) := by omega
      have hi1 : (i : Int) < (l.length : Int) := by omega
      have hi2 : (i : Int) ≤ 200 := by have := HL.out; omega
      have hft := filter_take p l i hlt
      rw [← hx] at hft
      clear hx hl2 hF2
      cases hpx : p x with
      | true =>
        rw [hpx] at hft
        have HPX := Aside0.mk hpx
        have HFT := Aside0.mk hft
        clear hft hpx
        go_wp2_with (first | (go_at_call 48; with_reducible refine (HP.out x A2 c2 _ HQX.out (below_alloc HB.out _)).mono ?_; (rw [HPX.out]); rintro e w2 ⟨rfl, hB2⟩; have HB2 := Aside0.mk (below_step (below_alloc HB.out _) hB2); have HO2 := Aside0.mk (Kd.N_below (Kd.N_alloc HO.out _) hB2); have HT := Aside0.mk (blk_below (blk_new wr _) hB2); have HF3 := Aside0.mk (Kd.F_below (Kd.F_alloc HF2.out _) hB2); have d0 := blk_cell HT.out 0; have d1 := blk_cell HT.out 1; have d2 := blk_cell HT.out 2; have d3 := blk_cell HT.out 3; have d4 := blk_cell HT.out 4; have d5 := blk_cell HT.out 5; have d6 := blk_cell HT.out 6; have d7 := blk_cell HT.out 7; have d8 := blk_cell HT.out 8; clear hB2) | ((with_reducible refine gate_builtin (b := .append) (xs := #[.tmp 18, .tmp 20]) rfl ?_); at_builtin; go_must (refine Kd.N_append k47 (w0 := w) (W := w2) w.heap.size rfl (.tmp 18) (.tmp 20) 23 47 (.agg #[.int .i64 0, .int .i64 0, .slice none 0 0, .int .i64 0, .int .i64 0, .int .i64 0, .string ⟨#[]⟩, .string ⟨#[]⟩, .int .i64 0]) 104 rfl Try.underlying23 info47 rfl (by decide) (by decide) (.slice Ao ((l.take i).filter p).length co) ((l.take i).filter p) x [.int .i64 x.f0.f0, .int .i64 x.f0.f1, .slice A2 x.f0.f2.length c2, .int .i64 x.f1, .int .i64 x.f2, .int .i64 x.f3, .string x.f4, .string x.f5, .int .i64 x.f6] (fun _ => True) (fun k => True ∧ k < w.heap.size) rfl (by first | rfl | (simp; rfl) | simp) (k47_mkF _ _ x HL2.out HF3.out) (fun k hk => ⟨trivial, fun e => absurd (Kd.N_base HO2.out k e.symm) (Nat.not_le_of_lt hk.2)⟩) (fun _ _ => trivial) HO2.out HB2.out HB2.out.size (by have := HL.out; have := HLT.out; omega) ?_); intro v9 w9 ho hb hg hat; have HO9 := Aside0.mk ho; have HB9 := Aside0.mk hb; clear ho hb hg hat))
        go_roundg (l.length - i)
        case measure => exact HK.out
        case rel => exact ⟨i + 1, by go_num, ⟨by omega⟩, ⟨by omega⟩, ⟨by rw [HFT.out]; exact HO9.out⟩, HB9⟩
      | false =>
        rw [hpx] at hft
        have HPX := Aside0.mk hpx
        have HFT := Aside0.mk hft
        clear hft hpx
        go_wp2_with (first | (go_at_call 48; with_reducible refine (HP.out x A2 c2 _ HQX.out (below_alloc HB.out _)).mono ?_; (rw [HPX.out]); rintro e w2 ⟨rfl, hB2⟩; have HB2 := Aside0.mk (below_step (below_alloc HB.out _) hB2); have HO2 := Aside0.mk (Kd.N_below (Kd.N_alloc HO.out _) hB2); have HT := Aside0.mk (blk_below (blk_new wr _) hB2); have HF3 := Aside0.mk (Kd.F_below (Kd.F_alloc HF2.out _) hB2); have d0 := blk_cell HT.out 0; have d1 := blk_cell HT.out 1; have d2 := blk_cell HT.out 2; have d3 := blk_cell HT.out 3; have d4 := blk_cell HT.out 4; have d5 := blk_cell HT.out 5; have d6 := blk_cell HT.out 6; have d7 := blk_cell HT.out 7; have d8 := blk_cell HT.out 8; clear hB2))
        go_roundg (l.length - i)
        case measure => exact HK.out
        case rel => exact ⟨i + 1, by go_num, ⟨by omega⟩, ⟨by omega⟩, ⟨by rw [HFT.out, if_neg (by decide), List.append_nil]; exact HO2.out⟩, HB2⟩
    · have ht : decide (i < l.length) = false := decide_eq_false hlt
      have ht2 : decide ((i : Int) < (l.length : Int)) = false := decide_eq_false (by omega)
      have HO2 := HO.out
      have hft : (l.take i).filter p = l.filter p := by rw [List.take_of_length_le (by omega)]
      rw [hft] at HO2 ⊢
      have HO3 := Aside0.mk HO2
      clear HO2 hft HO
      go_wp2
      go_ret
      exact ⟨Ao, co, rfl, HO3.out, HB.out⟩
set_option maxHeartbeats 4000000 in
set_option maxRecDepth 100000 in
theorem of39 (c1 : Value) (n s : Int) (vl : Value) (A : Option Addr) (c : Nat) (l : List S47) (w : World) (p : S47 → Bool) (hp0 : Tells 39 #[c1] w p) (hq : ∀ x ∈ l, okT x) (hF : Kd.F k47 w (fun _ => True) A l.length l) (hc : l.length ≤ c) (hl : l.length ≤ 200) :
    Calls Try.prog 38 #[.agg #[.int .i64 n, .int .i64 s, vl, .slice A l.length c], .func (Fn.func 39) #[] #[c1]] w fun e w' => ∃ A' c', e = .returned (.slice A' (l.filter p).length c') ∧ Kd.N k47 47 w' w.heap.size (fun _ => True) (.slice A' (l.filter p).length c') (l.filter p) ∧ Below w.heap.size w w' := by
  have hp : ∀ (x : S47) (A2 : Option Addr) (c2 : Nat) (W : World), okT x → Below w.heap.size w W → Calls Try.prog 39 #[.agg #[.int .i64 x.f0.f0, .int .i64 x.f0.f1, .slice A2 x.f0.f2.length c2, .int .i64 x.f1, .int .i64 x.f2, .int .i64 x.f3, .string x.f4, .string x.f5, .int .i64 x.f6], c1] W fun e w' => e = .returned (.bool (p x)) ∧ Below W.heap.size W w' := hp0
  have HF := Aside0.mk (Kd.F_bound hF)
  have HP := Aside0.mk hp
  have HL := Aside0.mk hl
  have HQ := Aside0.mk hq
  have HB0 := Aside0.mk (below_alloc (Below.refl w.heap.size w) (.cells #[.int .i64 n, .int .i64 s, vl, .slice A l.length c] 25))
  clear hF hp hp0 hl hq
  go_enter Try.func38, Try.ntmps38
  go_wp2
  go_loopg [5, 11] (l.length + 1) (fun kq v5 v11 wr => ∃ i : Nat, v11 = .int .i64 i ∧ Aside0 (i ≤ l.length) ∧ Aside0 (l.length - i < kq) ∧ Aside0 (Kd.N k47 47 wr w.heap.size (fun _ => True) v5 ((l.take i).filter p)) ∧ Aside0 (Below w.heap.size w wr))
  case atStart => exact ⟨0, rfl, ⟨Nat.zero_le _⟩, ⟨by omega⟩, ⟨by simpa using Kd.N_nil _ _ _ _ _⟩, HB0⟩
  case round =>
    obtain ⟨i, rfl, HI, HK, HO, HB⟩ := hrel
    have hi := HI.out
    obtain ⟨Ao, co, rfl⟩ := Kd.N_slice HO.out
    by_cases hlt : i < l.length
    · have ht : decide (i < l.length) = true := decide_eq_true hlt
      have ht2 : decide ((i : Int) < (l.length : Int)) = true := decide_eq_true (by omega)
      obtain ⟨x, hx⟩ : ∃ x, x = l.getD i z47 := ⟨_, rfl⟩
      have HFr := Aside0.mk (Kd.F_step HF.out (fun k hk _ => HB.out.block k hk.2))
      obtain ⟨ad, A2, c2, rfl, x0, x1, x2, x3, x4, x5, x6, x7, x8, hl2, hF2⟩ := at_F47 HFr.out i hlt x hx
      have HL2 := Aside0.mk hl2
      have HF2 := Aside0.mk hF2
      have HX := Aside0.mk hx
      have HQX := Aside0.mk (HQ.out x (by rw [hx, List.getD_eq_getElem?_getD, List.getElem?_eq_getElem hlt]; exact List.getElem_mem _))
      have HLT := Aside0.mk (show ((l.take i).filter p).length ≤ l.length from Nat.le_trans (List.length_filter_le _ _) ((by rw [List.length_take]; omega)))
      have hi0 : (0 : Int) ≤ (i : Int) := by omega
      have hi1 : (i : Int) < (l.length : Int) := by omega
      have hi2 : (i : Int) ≤ 200 := by have := HL.out; omega
      have hft := filter_take p l i hlt
      rw [← hx] at hft
      clear hx hl2 hF2
      cases hpx : p x with
      | true =>
        rw [hpx] at hft
        have HPX := Aside0.mk hpx
        have HFT := Aside0.mk hft
        clear hft hpx
        go_wp2_with (first | (go_at_call 39; with_reducible refine (HP.out x A2 c2 _ HQX.out (below_alloc HB.out _)).mono ?_; (rw [HPX.out]); rintro e w2 ⟨rfl, hB2⟩; have HB2 := Aside0.mk (below_step (below_alloc HB.out _) hB2); have HO2 := Aside0.mk (Kd.N_below (Kd.N_alloc HO.out _) hB2); have HT := Aside0.mk (blk_below (blk_new wr _) hB2); have HF3 := Aside0.mk (Kd.F_below (Kd.F_alloc HF2.out _) hB2); have d0 := blk_cell HT.out 0; have d1 := blk_cell HT.out 1; have d2 := blk_cell HT.out 2; have d3 := blk_cell HT.out 3; have d4 := blk_cell HT.out 4; have d5 := blk_cell HT.out 5; have d6 := blk_cell HT.out 6; have d7 := blk_cell HT.out 7; have d8 := blk_cell HT.out 8; clear hB2) | ((with_reducible refine gate_builtin (b := .append) (xs := #[.tmp 18, .tmp 20]) rfl ?_); at_builtin; go_must (refine Kd.N_append k47 (w0 := w) (W := w2) w.heap.size rfl (.tmp 18) (.tmp 20) 23 47 (.agg #[.int .i64 0, .int .i64 0, .slice none 0 0, .int .i64 0, .int .i64 0, .int .i64 0, .string ⟨#[]⟩, .string ⟨#[]⟩, .int .i64 0]) 104 rfl Try.underlying23 info47 rfl (by decide) (by decide) (.slice Ao ((l.take i).filter p).length co) ((l.take i).filter p) x [.int .i64 x.f0.f0, .int .i64 x.f0.f1, .slice A2 x.f0.f2.length c2, .int .i64 x.f1, .int .i64 x.f2, .int .i64 x.f3, .string x.f4, .string x.f5, .int .i64 x.f6] (fun _ => True) (fun k => True ∧ k < w.heap.size) rfl (by first | rfl | (simp; rfl) | simp) (k47_mkF _ _ x HL2.out HF3.out) (fun k hk => ⟨trivial, fun e => absurd (Kd.N_base HO2.out k e.symm) (Nat.not_le_of_lt hk.2)⟩) (fun _ _ => trivial) HO2.out HB2.out HB2.out.size (by have := HL.out; have := HLT.out; omega) ?_); intro v9 w9 ho hb hg hat; have HO9 := Aside0.mk ho; have HB9 := Aside0.mk hb; clear ho hb hg hat))
        go_roundg (l.length - i)
        case measure => exact HK.out
        case rel => exact ⟨i + 1, by go_num, ⟨by omega⟩, ⟨by omega⟩, ⟨by rw [HFT.out]; exact HO9.out⟩, HB9⟩
      | false =>
        rw [hpx] at hft
        have HPX := Aside0.mk hpx
        have HFT := Aside0.mk hft
        clear hft hpx
        go_wp2_with (first | (go_at_call 39; with_reducible refine (HP.out x A2 c2 _ HQX.out (below_alloc HB.out _)).mono ?_; (rw [HPX.out]); rintro e w2 ⟨rfl, hB2⟩; have HB2 := Aside0.mk (below_step (below_alloc HB.out _) hB2); have HO2 := Aside0.mk (Kd.N_below (Kd.N_alloc HO.out _) hB2); have HT := Aside0.mk (blk_below (blk_new wr _) hB2); have HF3 := Aside0.mk (Kd.F_below (Kd.F_alloc HF2.out _) hB2); have d0 := blk_cell HT.out 0; have d1 := blk_cell HT.out 1; have d2 := blk_cell HT.out 2; have d3 := blk_cell HT.out 3; have d4 := blk_cell HT.out 4; have d5 := blk_cell HT.out 5; have d6 := blk_cell HT.out 6; have d7 := blk_cell HT.out 7; have d8 := blk_cell HT.out 8; clear hB2))
        go_roundg (l.length - i)
        case measure => exact HK.out
        case rel => exact ⟨i + 1, by go_num, ⟨by omega⟩, ⟨by omega⟩, ⟨by rw [HFT.out, if_neg (by decide), List.append_nil]; exact HO2.out⟩, HB2⟩
    · have ht : decide (i < l.length) = false := decide_eq_false hlt
      have ht2 : decide ((i : Int) < (l.length : Int)) = false := decide_eq_false (by omega)
      have HO2 := HO.out
      have hft : (l.take i).filter p = l.filter p := by rw [List.take_of_length_le (by omega)]
      rw [hft] at HO2 ⊢
      have HO3 := Aside0.mk HO2
      clear HO2 hft HO
      go_wp2
      go_ret
      exact ⟨Ao, co, rfl, HO3.out, HB.out⟩
set_option maxHeartbeats 4000000 in
set_option maxRecDepth 100000 in
theorem of41 (c1 c2_ : Value) (n s : Int) (vl : Value) (A : Option Addr) (c : Nat) (l : List S47) (w : World) (p : S47 → Bool) (hp0 : Tells 41 #[c1, c2_] w p) (hq : ∀ x ∈ l, okT x) (hF : Kd.F k47 w (fun _ => True) A l.length l) (hc : l.length ≤ c) (hl : l.length ≤ 200) :
    Calls Try.prog 38 #[.agg #[.int .i64 n, .int .i64 s, vl, .slice A l.length c], .func (Fn.func 41) #[] #[c1, c2_]] w fun e w' => ∃ A' c', e = .returned (.slice A' (l.filter p).length c') ∧ Kd.N k47 47 w' w.heap.size (fun _ => True) (.slice A' (l.filter p).length c') (l.filter p) ∧ Below w.heap.size w w' := by
  have hp : ∀ (x : S47) (A2 : Option Addr) (c2 : Nat) (W : World), okT x → Below w.heap.size w W → Calls Try.prog 41 #[.agg #[.int .i64 x.f0.f0, .int .i64 x.f0.f1, .slice A2 x.f0.f2.length c2, .int .i64 x.f1, .int .i64 x.f2, .int .i64 x.f3, .string x.f4, .string x.f5, .int .i64 x.f6], c1, c2_] W fun e w' => e = .returned (.bool (p x)) ∧ Below W.heap.size W w' := hp0
  have HF := Aside0.mk (Kd.F_bound hF)
  have HP := Aside0.mk hp
  have HL := Aside0.mk hl
  have HQ := Aside0.mk hq
  have HB0 := Aside0.mk (below_alloc (Below.refl w.heap.size w) (.cells #[.int .i64 n, .int .i64 s, vl, .slice A l.length c] 25))
  clear hF hp hp0 hl hq
  go_enter Try.func38, Try.ntmps38
  go_wp2
  go_loopg [5, 11] (l.length + 1) (fun kq v5 v11 wr => ∃ i : Nat, v11 = .int .i64 i ∧ Aside0 (i ≤ l.length) ∧ Aside0 (l.length - i < kq) ∧ Aside0 (Kd.N k47 47 wr w.heap.size (fun _ => True) v5 ((l.take i).filter p)) ∧ Aside0 (Below w.heap.size w wr))
  case atStart => exact ⟨0, rfl, ⟨Nat.zero_le _⟩, ⟨by omega⟩, ⟨by simpa using Kd.N_nil _ _ _ _ _⟩, HB0⟩
  case round =>
    obtain ⟨i, rfl, HI, HK, HO, HB⟩ := hrel
    have hi := HI.out
    obtain ⟨Ao, co, rfl⟩ := Kd.N_slice HO.out
    by_cases hlt : i < l.length
    · have ht : decide (i < l.length) = true := decide_eq_true hlt
      have ht2 : decide ((i : Int) < (l.length : Int)) = true := decide_eq_true (by omega)
      obtain ⟨x, hx⟩ : ∃ x, x = l.getD i z47 := ⟨_, rfl⟩
      have HFr := Aside0.mk (Kd.F_step HF.out (fun k hk _ => HB.out.block k hk.2))
      obtain ⟨ad, A2, c2, rfl, x0, x1, x2, x3, x4, x5, x6, x7, x8, hl2, hF2⟩ := at_F47 HFr.out i hlt x hx
      have HL2 := Aside0.mk hl2
      have HF2 := Aside0.mk hF2
      have HX := Aside0.mk hx
      have HQX := Aside0.mk (HQ.out x (by rw [hx, List.getD_eq_getElem?_getD, List.getElem?_eq_getElem hlt]; exact List.getElem_mem _))
      have HLT := Aside0.mk (show ((l.take i).filter p).length ≤ l.length from Nat.le_trans (List.length_filter_le _ _) ((by rw [List.length_take]; omega)))
      have hi0 : (0 : Int) ≤ (i : Int) := by omega
      have hi1 : (i : Int) < (l.length : Int) := by omega
      have hi2 : (i : Int) ≤ 200 := by have := HL.out; omega
      have hft := filter_take p l i hlt
      rw [← hx] at hft
      clear hx hl2 hF2
      cases hpx : p x with
      | true =>
        rw [hpx] at hft
        have HPX := Aside0.mk hpx
        have HFT := Aside0.mk hft
        clear hft hpx
        go_wp2_with (first | (go_at_call 41; with_reducible refine (HP.out x A2 c2 _ HQX.out (below_alloc HB.out _)).mono ?_; (rw [HPX.out]); rintro e w2 ⟨rfl, hB2⟩; have HB2 := Aside0.mk (below_step (below_alloc HB.out _) hB2); have HO2 := Aside0.mk (Kd.N_below (Kd.N_alloc HO.out _) hB2); have HT := Aside0.mk (blk_below (blk_new wr _) hB2); have HF3 := Aside0.mk (Kd.F_below (Kd.F_alloc HF2.out _) hB2); have d0 := blk_cell HT.out 0; have d1 := blk_cell HT.out 1; have d2 := blk_cell HT.out 2; have d3 := blk_cell HT.out 3; have d4 := blk_cell HT.out 4; have d5 := blk_cell HT.out 5; have d6 := blk_cell HT.out 6; have d7 := blk_cell HT.out 7; have d8 := blk_cell HT.out 8; clear hB2) | ((with_reducible refine gate_builtin (b := .append) (xs := #[.tmp 18, .tmp 20]) rfl ?_); at_builtin; go_must (refine Kd.N_append k47 (w0 := w) (W := w2) w.heap.size rfl (.tmp 18) (.tmp 20) 23 47 (.agg #[.int .i64 0, .int .i64 0, .slice none 0 0, .int .i64 0, .int .i64 0, .int .i64 0, .string ⟨#[]⟩, .string ⟨#[]⟩, .int .i64 0]) 104 rfl Try.underlying23 info47 rfl (by decide) (by decide) (.slice Ao ((l.take i).filter p).length co) ((l.take i).filter p) x [.int .i64 x.f0.f0, .int .i64 x.f0.f1, .slice A2 x.f0.f2.length c2, .int .i64 x.f1, .int .i64 x.f2, .int .i64 x.f3, .string x.f4, .string x.f5, .int .i64 x.f6] (fun _ => True) (fun k => True ∧ k < w.heap.size) rfl (by first | rfl | (simp; rfl) | simp) (k47_mkF _ _ x HL2.out HF3.out) (fun k hk => ⟨trivial, fun e => absurd (Kd.N_base HO2.out k e.symm) (Nat.not_le_of_lt hk.2)⟩) (fun _ _ => trivial) HO2.out HB2.out HB2.out.size (by have := HL.out; have := HLT.out; omega) ?_); intro v9 w9 ho hb hg hat; have HO9 := Aside0.mk ho; have HB9 := Aside0.mk hb; clear ho hb hg hat))
        go_roundg (l.length - i)
        case measure => exact HK.out
        case rel => exact ⟨i + 1, by go_num, ⟨by omega⟩, ⟨by omega⟩, ⟨by rw [HFT.out]; exact HO9.out⟩, HB9⟩
      | false =>
        rw [hpx] at hft
        have HPX := Aside0.mk hpx
        have HFT := Aside0.mk hft
        clear hft hpx
        go_wp2_with (first | (go_at_call 41; with_reducible refine (HP.out x A2 c2 _ HQX.out (below_alloc HB.out _)).mono ?_; (rw [HPX.out]); rintro e w2 ⟨rfl, hB2⟩; have HB2 := Aside0.mk (below_step (below_alloc HB.out _) hB2); have HO2 := Aside0.mk (Kd.N_below (Kd.N_alloc HO.out _) hB2); have HT := Aside0.mk (blk_below (blk_new wr _) hB2); have HF3 := Aside0.mk (Kd.F_below (Kd.F_alloc HF2.out _) hB2); have d0 := blk_cell HT.out 0; have d1 := blk_cell HT.out 1; have d2 := blk_cell HT.out 2; have d3 := blk_cell HT.out 3; have d4 := blk_cell HT.out 4; have d5 := blk_cell HT.out 5; have d6 := blk_cell HT.out 6; have d7 := blk_cell HT.out 7; have d8 := blk_cell HT.out 8; clear hB2))
        go_roundg (l.length - i)
        case measure => exact HK.out
        case rel => exact ⟨i + 1, by go_num, ⟨by omega⟩, ⟨by omega⟩, ⟨by rw [HFT.out, if_neg (by decide), List.append_nil]; exact HO2.out⟩, HB2⟩
    · have ht : decide (i < l.length) = false := decide_eq_false hlt
      have ht2 : decide ((i : Int) < (l.length : Int)) = false := decide_eq_false (by omega)
      have HO2 := HO.out
      have hft : (l.take i).filter p = l.filter p := by rw [List.take_of_length_le (by omega)]
      rw [hft] at HO2 ⊢
      have HO3 := Aside0.mk HO2
      clear HO2 hft HO
      go_wp2
      go_ret
      exact ⟨Ao, co, rfl, HO3.out, HB.out⟩
end Go.Proofs.Ytgnmdhjnpbnacaa.PB
end
section
set_option linter.unusedVariables false
namespace Go.Proofs.Ytgnmdhjnpbnacaa.PB
open Go.RowKit Go.Proofs.YtgnmdhjnpbnacaaW.PrintWords Go.Proofs.YtgnmdhjnpbnacaaW.PrintLast Go.Proofs.YtgnmdhjnpbnacaaW.PrintMore Go.Proofs.Ytgnmdhjnpbnacaa.Opn
theorem opens79 : Opens Try.prog 79 k79 (fun _ => True) :=
  opens_imp (opens_struct (d := Kd.pair (Kd.int .i64) (Kd.int .i64)) (fun x : S79 => (x.f0, x.f1)) (fun p => ⟨p.1, p.2⟩) (fun _ => rfl) Try.underlying79 (by kernel_rfl) (fields_cons rfl (by kernel_rfl) (opens_int Try.underlying3) (fields_last rfl (by kernel_rfl) (opens_int Try.underlying3)))) (fun _ _ => trivial)
theorem opens43 : Opens Try.prog 43 (Kd.slice 79 k79) (fun _ => True) :=
  opens_imp (opens_slice Try.underlying43 opens79 (B := 16) (by kernel_rfl) (by kernel_rfl)) (fun _ _ => trivial)
theorem opens45 : Opens Try.prog 45 k45 (fun _ => True) :=
  opens_imp (opens_struct (d := Kd.pair (Kd.int .i64) (Kd.pair (Kd.int .i64) (Kd.slice 79 k79))) (fun x : S45 => (x.f0, x.f1, x.f2)) (fun p => ⟨p.1, p.2.1, p.2.2⟩) (fun _ => rfl) Try.underlying45 (by kernel_rfl) (fields_cons rfl (by kernel_rfl) (opens_int Try.underlying3) (fields_cons rfl (by kernel_rfl) (opens_int Try.underlying3) (fields_last rfl (by kernel_rfl) opens43)))) (fun _ _ => trivial)
theorem opens57 : Opens Try.prog 57 k57 (fun _ => True) :=
  opens_imp (opens_struct (d := Kd.pair k45 (Kd.int .i64)) (fun x : S57 => (x.f0, x.f1)) (fun p => ⟨p.1, p.2⟩) (fun _ => rfl) Try.underlying57 (by kernel_rfl) (fields_cons rfl (by kernel_rfl) opens45 (fields_last rfl (by kernel_rfl) (opens_int Try.underlying3)))) (fun _ _ => trivial)
theorem opens22 : Opens Try.prog 22 (Kd.slice 57 k57) (fun _ => True) :=
  opens_imp (opens_slice Try.underlying22 opens57 (B := 48) (by kernel_rfl) (by kernel_rfl)) (fun _ _ => trivial)
theorem opens47 : Opens Try.prog 47 k47 okT := by
  refine opens_imp (opens_struct (d := Kd.pair k45 (Kd.pair (Kd.int .i64) (Kd.pair (Kd.int .i64) (Kd.pair (Kd.int .i64) (Kd.pair Kd.string (Kd.pair Kd.string (Kd.int .i64))))))) (fun x : S47 => (x.f0, x.f1, x.f2, x.f3, x.f4, x.f5, x.f6)) (fun p => ⟨p.1, p.2.1, p.2.2.1, p.2.2.2.1, p.2.2.2.2.1, p.2.2.2.2.2.1, p.2.2.2.2.2.2⟩) (fun _ => rfl) Try.underlying47 (by kernel_rfl) (fields_cons rfl (by kernel_rfl) opens45 (fields_cons rfl (by kernel_rfl) (opens_int Try.underlying3) (fields_cons rfl (by kernel_rfl) (opens_int Try.underlying3) (fields_cons rfl (by kernel_rfl) (opens_int Try.underlying3) (fields_cons rfl (by kernel_rfl) (opens_string Try.underlying9) (fields_cons rfl (by kernel_rfl) (opens_string Try.underlying9) (fields_last rfl (by kernel_rfl) (opens_int Try.underlying3))))))))) (fun a hG => ?_)
  obtain ⟨_, _, h2, _⟩ := hG
  simp only [Lit.wf, Bool.and_eq_true, decide_eq_true_eq, IntKind.min, IntKind.max, IntKind.signed, IntKind.bits, if_true] at h2
  unfold okT
  omega
theorem opens23 : Opens Try.prog 23 (Kd.slice 47 k47) (fun l => l.length ≤ 1353245080339 ∧ ∀ a ∈ l, okT a) :=
  opens_imp (opens_slice Try.underlying23 opens47 (B := 104) (by kernel_rfl) (by kernel_rfl)) (fun l h => ⟨by omega, h.2.2⟩)
/-- a version -/
structure S25 where
  f0 : Int
  f1 : Int
  f2 : List S57
  f3 : List S47
def k25 : Kd S25 := Kd.iso (Kd.pair (Kd.int .i64) (Kd.pair (Kd.int .i64) (Kd.pair (Kd.slice 57 k57) (Kd.slice 47 k47)))) (fun x : S25 => (x.f0, x.f1, x.f2, x.f3))
theorem opens25 : Opens Try.prog 25 k25 (fun v => v.f3.length ≤ 1353245080339 ∧ ∀ a ∈ v.f3, okT a) :=
  opens_imp (opens_struct (d := Kd.pair (Kd.int .i64) (Kd.pair (Kd.int .i64) (Kd.pair (Kd.slice 57 k57) (Kd.slice 47 k47)))) (fun x : S25 => (x.f0, x.f1, x.f2, x.f3)) (fun p => ⟨p.1, p.2.1, p.2.2.1, p.2.2.2⟩) (fun _ => rfl) Try.underlying25 (by kernel_rfl) (fields_cons rfl (by kernel_rfl) (opens_int Try.underlying3) (fields_cons rfl (by kernel_rfl) (opens_int Try.underlying3) (fields_cons rfl (by kernel_rfl) opens22 (fields_last rfl (by kernel_rfl) opens23))))) (fun a hG => hG.2.2.2)
theorem k25_open {w : World} {x : S25} {cs : List Value} (h : k25.K w x cs) : ∃ A2 c2 A3 c3, cs = [.int .i64 x.f0, .int .i64 x.f1, .slice A2 x.f2.length c2, .slice A3 x.f3.length c3] ∧ x.f2.length ≤ c2 ∧ k57.C w A2 x.f2.length x.f2 ∧ x.f3.length ≤ c3 ∧ k47.C w A3 x.f3.length x.f3 := by
  obtain ⟨_, _, rfl, rfl, ⟨_, _, rfl, rfl, ⟨_, _, rfl, ⟨A2, c2, rfl, l2, g2⟩, ⟨A3, c3, rfl, l3, g3⟩⟩⟩⟩ := h
  exact ⟨A2, c2, A3, c3, rfl, l2, g2, l3, g3⟩
end Go.Proofs.Ytgnmdhjnpbnacaa.PB
end
section
set_option linter.unusedVariables false
set_option linter.unusedSimpArgs false
namespace Go.Proofs.Ytgnmdhjnpbnacaa.PB
open Go.RowKit Go.Proofs.YtgnmdhjnpbnacaaW.PrintWords Go.Proofs.YtgnmdhjnpbnacaaW.PrintLast Go.Proofs.YtgnmdhjnpbnacaaW.PrintMore
def leS (a b : ByteArray) : Bool := Op.bytesLess a.toList b.toList || a.toList == b.toList
theorem leS_no {a b : ByteArray} (h : ¬ (Op.bytesLess a.toList b.toList = true ∨ a.toList = b.toList)) : leS a b = false := by
  unfold leS
  rw [Bool.or_eq_false_iff]
  exact ⟨Bool.eq_false_iff.2 fun h1 => h (.inl h1), beq_eq_false_iff_ne.2 fun h1 => h (.inr h1)⟩
def meetB (lo hi : ByteArray) (x : S47) : Bool := leS x.f4 hi && leS lo x.f5
def lvl (n : Int) (x : S47) : Bool := x.f2 == n
set_option maxHeartbeats 4000000 in
set_option maxRecDepth 100000 in
theorem tells43 (n : Int) (g : Nat) (w : World) (hb : w.heap[g]? = some (.cells #[.int .i64 n] 3 (0, 0))) : Tells 43 #[.pointer (some ⟨g, 0, none⟩)] w (lvl n) := by
  intro x A2 c2 W hx hB
  have c0 := blk_cell (blk_below hb hB) 0
  have hlt := blk_lt (blk_below hb hB)
  have d0 : ∀ o, (W.alloc o).cell? ⟨g, 0, none⟩ = some (.int .i64 n) := fun o => (blk_cell (blk_alloc (blk_below hb hB) o) 0).trans rfl
  clear hb hB c0
  show Calls Try.prog 43 #[.agg #[.int .i64 x.f0.f0, .int .i64 x.f0.f1, .slice A2 x.f0.f2.length c2, .int .i64 x.f1, .int .i64 x.f2, .int .i64 x.f3, .string x.f4, .string x.f5, .int .i64 x.f6], .pointer (some ⟨g, 0, none⟩)] W _
  go_enter Try.func43, Try.ntmps43
  go_wp2
  go_ret
  exact ⟨rfl, below_alloc (Below.refl _ _) _⟩
set_option maxHeartbeats 4000000 in
set_option maxRecDepth 100000 in
theorem meets_c (lo hi : ByteArray) (x : S47) (A2 : Option Addr) (c2 : Nat) (W : World) :
    Calls Try.prog 42 #[.agg #[.string lo, .string hi], .agg #[.int .i64 x.f0.f0, .int .i64 x.f0.f1, .slice A2 x.f0.f2.length c2, .int .i64 x.f1, .int .i64 x.f2, .int .i64 x.f3, .string x.f4, .string x.f5, .int .i64 x.f6]] W fun e w' => e = .returned (.bool (meetB lo hi x)) ∧ Below W.heap.size W w' := by
  have HB := Aside0.mk (below_alloc (below_alloc (Below.refl W.heap.size W) (.cells #[.string lo, .string hi] 72)) (.cells #[.int .i64 x.f0.f0, .int .i64 x.f0.f1, .slice A2 x.f0.f2.length c2, .int .i64 x.f1, .int .i64 x.f2, .int .i64 x.f3, .string x.f4, .string x.f5, .int .i64 x.f6] 47))
  go_enter Try.func42, Try.ntmps42
  go_wp2
  · go_ret
    exact ⟨rfl, HB.out⟩
  · rename_i h
    have e : meetB lo hi x = false := by unfold meetB; rw [leS_no h]; rfl
    rw [e]
    go_ret
    exact ⟨rfl, HB.out⟩
def ovP (n : Int) (lo hi : ByteArray) (x : S47) : Bool := lvl n x && meetB lo hi x
theorem lvl_yes {n : Int} {x : S47} (h : x.f2 = n) : lvl n x = true := by unfold lvl; rw [h]; exact beq_self_eq_true _
theorem lvl_no {n : Int} {x : S47} (h : ¬ x.f2 = n) : lvl n x = false := beq_eq_false_iff_ne.2 h
set_option maxHeartbeats 4000000 in
set_option maxRecDepth 100000 in
theorem tells48 (n : Int) (lo hi : ByteArray) (g q : Nat) (w : World) (hb : w.heap[g]? = some (.cells #[.int .i64 n] 3 (0, 0))) (hq : w.heap[q]? = some (.cells #[.string lo, .string hi] 72 (0, 0))) : Tells 48 #[.pointer (some ⟨g, 0, none⟩), .pointer (some ⟨q, 0, none⟩)] w (ovP n lo hi) := by
  intro x A2 c2 W hx hB
  have dg_0 : ∀ o, (W.alloc o).cell? ⟨g, 0, none⟩ = some (.int .i64 n) := fun o => (blk_cell (blk_alloc (blk_below hb hB) o) 0).trans rfl
  have dq_0 : ∀ o, (W.alloc o).cell? ⟨q, 0, none⟩ = some (.string lo) := fun o => (blk_cell (blk_alloc (blk_below hq hB) o) 0).trans rfl
  have dq_1 : ∀ o, (W.alloc o).cell? ⟨q, 1, none⟩ = some (.string hi) := fun o => (blk_cell (blk_alloc (blk_below hq hB) o) 1).trans rfl
  have HB := Aside0.mk (below_alloc (Below.refl W.heap.size W) (.cells #[.int .i64 x.f0.f0, .int .i64 x.f0.f1, .slice A2 x.f0.f2.length c2, .int .i64 x.f1, .int .i64 x.f2, .int .i64 x.f3, .string x.f4, .string x.f5, .int .i64 x.f6] 47))
  clear hb hq hB
  show Calls Try.prog 48 #[.agg #[.int .i64 x.f0.f0, .int .i64 x.f0.f1, .slice A2 x.f0.f2.length c2, .int .i64 x.f1, .int .i64 x.f2, .int .i64 x.f3, .string x.f4, .string x.f5, .int .i64 x.f6], .pointer (some ⟨g, 0, none⟩), .pointer (some ⟨q, 0, none⟩)] W _
  by_cases h : x.f2 = n
  · have h1 : (x.f2 == n) = true := lvl_yes h
    have e : ovP n lo hi x = meetB lo hi x := by unfold ovP; rw [lvl_yes h]; rfl
    rw [e]
    clear h e
    go_enter Try.func48, Try.ntmps48
    go_wp2_with (first | (go_at_call 42; with_reducible refine (meets_c lo hi x A2 c2 _).mono ?_; rintro e w2 ⟨rfl, hB2⟩; have HB2 := Aside0.mk (below_step HB.out hB2); clear hB2))
    go_ret
    exact ⟨rfl, HB2.out⟩
  · have h1 : (x.f2 == n) = false := lvl_no h
    have e : ovP n lo hi x = false := by unfold ovP; rw [lvl_no h]; rfl
    rw [e]
    clear h e
    go_enter Try.func48, Try.ntmps48
    go_wp2
    go_ret
    exact ⟨rfl, HB.out⟩
def belowB (L : Int) (x : S47) : Bool := decide (L < x.f2) && decide (L < x.f2 - 1)
def botP (L : Int) (lo hi : ByteArray) (x : S47) : Bool := belowB L x && meetB lo hi x
set_option maxHeartbeats 4000000 in
set_option maxRecDepth 100000 in
theorem tells41 (L : Int) (vi vo : Value) (lo hi : ByteArray) (g q : Nat) (w : World) (hL : 0 ≤ L) (hL2 : L ≤ 100) (hb : w.heap[g]? = some (.cells #[.int .i64 L, vi, vo] 34 (0, 0))) (hq : w.heap[q]? = some (.cells #[.string lo, .string hi] 72 (0, 0))) :
    Tells 41 #[.pointer (some ⟨g, 0, none⟩), .pointer (some ⟨q, 0, none⟩)] w (botP L lo hi) := by
  intro x A2 c2 W hx hB
  have dg_0 : ∀ o, (W.alloc o).cell? ⟨g, 0, none⟩ = some (.int .i64 L) := fun o => (blk_cell (blk_alloc (blk_below hb hB) o) 0).trans rfl
  have dq_0 : ∀ o, (W.alloc o).cell? ⟨q, 0, none⟩ = some (.string lo) := fun o => (blk_cell (blk_alloc (blk_below hq hB) o) 0).trans rfl
  have dq_1 : ∀ o, (W.alloc o).cell? ⟨q, 1, none⟩ = some (.string hi) := fun o => (blk_cell (blk_alloc (blk_below hq hB) o) 1).trans rfl
  have HB := Aside0.mk (below_alloc (Below.refl W.heap.size W) (.cells #[.int .i64 x.f0.f0, .int .i64 x.f0.f1, .slice A2 x.f0.f2.length c2, .int .i64 x.f1, .int .i64 x.f2, .int .i64 x.f3, .string x.f4, .string x.f5, .int .i64 x.f6] 47))
  have hx2 := hx.2
  clear hb hq hB hx
  show Calls Try.prog 41 #[.agg #[.int .i64 x.f0.f0, .int .i64 x.f0.f1, .slice A2 x.f0.f2.length c2, .int .i64 x.f1, .int .i64 x.f2, .int .i64 x.f3, .string x.f4, .string x.f5, .int .i64 x.f6], .pointer (some ⟨g, 0, none⟩), .pointer (some ⟨q, 0, none⟩)] W _
  by_cases h : L < x.f2
  · by_cases h2 : L < x.f2 - 1
    · have e : botP L lo hi x = meetB lo hi x := by unfold botP belowB; rw [decide_eq_true h, decide_eq_true h2]; rfl
      rw [e]
      have t1 : decide (L < x.f2) = true := decide_eq_true h
      have t2 : decide (L < x.f2 - 1) = true := decide_eq_true h2
      clear e
      go_enter Try.func41, Try.ntmps41
      go_wp2_with (first | (go_at_call 42; with_reducible refine (meets_c lo hi x A2 c2 _).mono ?_; rintro e w2 ⟨rfl, hB2⟩; have HB2 := Aside0.mk (below_step HB.out hB2); clear hB2))
      go_ret
      exact ⟨rfl, HB2.out⟩
    · have e : botP L lo hi x = false := by unfold botP belowB; rw [decide_eq_true h, decide_eq_false h2]; rfl
      rw [e]
      have t1 : decide (L < x.f2) = true := decide_eq_true h
      have t2 : decide (L < x.f2 - 1) = false := decide_eq_false h2
      clear e
      go_enter Try.func41, Try.ntmps41
      go_wp2
      go_ret
      exact ⟨rfl, HB.out⟩
  · have e : botP L lo hi x = false := by unfold botP belowB; rw [decide_eq_false h]; rfl
    rw [e]
    have t1 : decide (L < x.f2) = false := decide_eq_false h
    clear e
    go_enter Try.func41, Try.ntmps41
    go_wp2
    go_ret
    exact ⟨rfl, HB.out⟩
end Go.Proofs.Ytgnmdhjnpbnacaa.PB
end
section
set_option linter.unusedVariables false
set_option linter.unusedSimpArgs false
namespace Go.Proofs.Ytgnmdhjnpbnacaa.PB
open Go.RowKit Go.Proofs.YtgnmdhjnpbnacaaW.PrintWords Go.Proofs.YtgnmdhjnpbnacaaW.PrintLast Go.Proofs.YtgnmdhjnpbnacaaW.PrintMore
def sortI (l : List Int) : List Int := l.mergeSort fun x y => decide (x ≤ y)
theorem sortI_sorted (l : List Int) : (sortI l).Pairwise (fun a b => a ≤ b) := by
  have h := List.pairwise_mergeSort (le := fun x y : Int => decide (x ≤ y)) (fun a b c h1 h2 => by simp only [decide_eq_true_eq] at *; omega) (fun a b => by simp only [Bool.or_eq_true, decide_eq_true_eq]; omega) l
  exact h.imp fun h => by simpa using h
theorem sortI_perm (l : List Int) : (sortI l).Perm l := List.mergeSort_perm l _
theorem sorted_eq {l l' : List Int} (h : l.Perm l') (h1 : l.Pairwise (fun a b => a ≤ b)) (h2 : l'.Pairwise (fun a b => a ≤ b)) : l = l' :=
  List.Perm.eq_of_pairwise (le := fun a b : Int => a ≤ b) (fun a b _ _ h1 h2 => by omega) h1 h2 h
theorem sortI_length (l : List Int) : (sortI l).length = l.length := (sortI_perm l).length_eq
theorem w_next (i : Nat) (h2 : i < 9223372036854775807) : wrap64 ((i : Int) + 1) = ((i + 1 : Nat) : Int) := by unfold wrap64; omega
theorem rd_D (b : List Int) (i : Nat) : rd b (i : Int) = b.getD i 0 := by unfold rd; rw [Int.toNat_natCast]
end Go.Proofs.Ytgnmdhjnpbnacaa.PB
end
section
namespace Go.Proofs
open Go.Shelf
def Try.lays189_ren : Go.Shelf.Ren := ⟨fun | 189 => 47 | 125 => 53 | 257 => 52 | 128 => 64 | 129 => 65 | 294 => 55 | 295 => 56 | 296 => 57 | 297 => 58 | 298 => 59 | 299 => 60 | 216 => 61 | 300 => 62 | 301 => 63 | 328 => 66 | 329 => 67 | 330 => 68 | 331 => 69 | 332 => 70 | 215 => 51 | 343 => 71 | n => n, fun | 28 => 32 | 3 => 3 | 46 => 39 | 0 => 0 | 51 => 98 | 53 => 26 | 4 => 4 | 183 => 90 | 182 => 89 | 131 => 95 | 5 => 5 | 9 => 9 | 218 => 100 | 222 => 104 | 228 => 106 | 229 => 107 | n => n, fun | n => n⟩
theorem Try.lays189 : Go.Proofs.Lays.n189 Try.prog Try.lays189_ren := {
  mixed := by kernel_rfl
  f125 := Try.func53.trans (congrArg some (by kernel_rfl))
  f128 := Try.func64.trans (congrArg some (by kernel_rfl))
  f129 := Try.func65.trans (congrArg some (by kernel_rfl))
  f189 := Try.func47.trans (congrArg some (by kernel_rfl))
  f215 := Try.func51.trans (congrArg some (by kernel_rfl))
  f216 := Try.func61.trans (congrArg some (by kernel_rfl))
  f257 := Try.func52.trans (congrArg some (by kernel_rfl))
  f294 := Try.func55.trans (congrArg some (by kernel_rfl))
  f295 := Try.func56.trans (congrArg some (by kernel_rfl))
  f296 := Try.func57.trans (congrArg some (by kernel_rfl))
  f297 := Try.func58.trans (congrArg some (by kernel_rfl))
  f298 := Try.func59.trans (congrArg some (by kernel_rfl))
  f299 := Try.func60.trans (congrArg some (by kernel_rfl))
  f300 := Try.func62.trans (congrArg some (by kernel_rfl))
  f301 := Try.func63.trans (congrArg some (by kernel_rfl))
  f328 := Try.func66.trans (congrArg some (by kernel_rfl))
  f329 := Try.func67.trans (congrArg some (by kernel_rfl))
  f330 := Try.func68.trans (congrArg some (by kernel_rfl))
  f331 := Try.func69.trans (congrArg some (by kernel_rfl))
  f332 := Try.func70.trans (congrArg some (by kernel_rfl))
  f343 := Try.func71.trans (congrArg some (by kernel_rfl))
  t0 := Try.underlying0
  a0 := Try.isAgg0
  z0 := Try.sizeOf0
  v0 := Try.zeroValue0
  t3 := Try.underlying3
  a3 := Try.isAgg3
  z3 := Try.sizeOf3
  v3 := Try.zeroValue3
  t4 := Try.underlying4
  a4 := Try.isAgg4
  z4 := Try.sizeOf4
  v4 := Try.zeroValue4
  t5 := Try.underlying5
  a5 := Try.isAgg5
  z5 := Try.sizeOf5
  v5 := Try.zeroValue5
  t9 := Try.underlying9
  a9 := Try.isAgg9
  z9 := Try.sizeOf9
  v9 := Try.zeroValue9
  t28 := Try.underlying32
  a28 := Try.isAgg32
  z28 := Try.sizeOf32
  v28 := Try.zeroValue32
  t46 := Try.underlying39
  a46 := Try.isAgg39
  z46 := Try.sizeOf39
  v46 := Try.zeroValue39
  t51 := Try.underlying98
  a51 := Try.isAgg98
  z51 := Try.sizeOf98
  v51 := Try.zeroValue98
  t53 := Try.underlying26
  a53 := Try.isAgg26
  z53 := Try.sizeOf26
  v53 := Try.zeroValue26
  t131 := Try.underlying95
  a131 := Try.isAgg95
  z131 := Try.sizeOf95
  v131 := Try.zeroValue95
  t182 := Try.underlying89
  a182 := Try.isAgg89
  z182 := Try.sizeOf89
  v182 := Try.zeroValue89
  t183 := Try.underlying90
  a183 := Try.isAgg90
  z183 := Try.sizeOf90
  v183 := Try.zeroValue90
  t218 := Try.underlying100
  a218 := Try.isAgg100
  z218 := Try.sizeOf100
  v218 := Try.zeroValue100
  t222 := Try.underlying104
  a222 := Try.isAgg104
  z222 := Try.sizeOf104
  v222 := Try.zeroValue104
  t228 := Try.underlying106
  a228 := Try.isAgg106
  z228 := Try.sizeOf106
  v228 := Try.zeroValue106
  t229 := Try.underlying107
  a229 := Try.isAgg107
  z229 := Try.sizeOf107
  v229 := Try.zeroValue107 }
end Go.Proofs
end
section
set_option linter.unusedVariables false
set_option linter.unusedSimpArgs false
namespace Go.Proofs.Ytgnmdhjnpbnacaa.PB
open Go.RowKit Go.Proofs.YtgnmdhjnpbnacaaW.PrintWords Go.Proofs.YtgnmdhjnpbnacaaW.PrintLast Go.Proofs.YtgnmdhjnpbnacaaW.PrintMore
abbrev kI : Kd Int := Kd.int .i64
theorem sort_c (A : Option Addr) (c n : Nat) (zs : List Int) (base : Nat) (w : World) (hn : n = zs.length) (hR : kI.R 3 w base (fun _ => True) (.slice A zs.length c) zs) (hl : zs.length ≤ 100000) :
    Calls Try.prog 47 #[.slice A n c] w fun e w' => e = .returned (.tuple #[]) ∧ kI.R 3 w' base (fun _ => True) (.slice A (sortI zs).length c) (sortI zs) ∧ w.grownBy w' (Value.slice A zs.length c).ownBlock := by
  subst hn
  by_cases h0 : zs.length = 0
  · have hz : zs = [] := List.length_eq_zero_iff.1 h0
    subst hz
    refine (Any.slices_Sort_int_none Try.lays189 A c w).mono ?_
    rintro e w' ⟨rfl, rfl⟩
    refine ⟨rfl, ?_, World.grownBy.refl _ _⟩
    have : sortI [] = [] := by simp [sortI]
    rw [this]
    exact hR
  · have ho : w.ownsRow base 3 1 (.slice A zs.length c) zs.length (zs.map (Value.int .i64)) := Kd.own_of_R hR
    rcases ho.2 with ⟨hnil, _⟩ | ⟨g, cap, cur, hv, hbase, hb, h1, h2, h3, h4⟩
    · injection hnil with _ h5 _; exact absurd h5 h0
    · injection hv with hA hN hc
      subst hA hc
      have hH := Go.holds_of_blockI hb (by simpa using h4)
      refine (Any.slices_Sort_int Try.lays189 g 0 c zs w hH (Array.getElem?_eq_some_iff.1 hb).1 (by omega)).mono ?_
      rintro e w' ⟨rfl, nn, os, rfl⟩
      refine ⟨rfl, ?_, ?_⟩
      · have h5 := Go.ownsRow_sortedI (n := nn) (os := os) (ts := sortI zs) (sortI_length zs) hbase hb h1 h2 h3
        rw [sortI_length] 
        exact Kd.R_of_own (by rw [sortI_length]; exact h5) (fun _ _ => trivial)
      · have := Go.grownBy_sortedI (w := w) (g := g) (n := nn) (os := os) (sortI zs).toArray
        exact this
end Go.Proofs.Ytgnmdhjnpbnacaa.PB
end
section
set_option linter.unusedVariables false
set_option linter.unusedSimpArgs false
namespace Go.Proofs.Ytgnmdhjnpbnacaa.PB
open Go.RowKit Go.Proofs.YtgnmdhjnpbnacaaW.PrintWords Go.Proofs.YtgnmdhjnpbnacaaW.PrintLast Go.Proofs.YtgnmdhjnpbnacaaW.PrintMore
def idT (x : S47) : Int := x.f0.f0
theorem map_take (l : List S47) (i : Nat) (hi : i < l.length) (x : S47) (hx : x = l.getD i z47) : (l.take (i + 1)).map idT = (l.take i).map idT ++ [idT x] := by
  have hD : l.getD i z47 = l[i] := by rw [List.getD_eq_getElem?_getD, List.getElem?_eq_getElem hi]; rfl
  rw [List.take_succ_eq_append_getElem hi, List.map_append, hx, hD]
  rfl
set_option maxHeartbeats 4000000 in
set_option maxRecDepth 100000 in
theorem ids_c (A : Option Addr) (c n : Nat) (l : List S47) (w : World) (hn : n = l.length) (hC : Kd.F k47 w (fun _ => True) A l.length l) (hc : l.length ≤ c) (hl : l.length ≤ 1000) :
    Calls Try.prog 33 #[.slice A n c] w fun e w' => ∃ A' c', e = .returned (.slice A' (sortI (l.map idT)).length c') ∧ kI.R 3 w' w.heap.size (fun _ => True) (.slice A' (sortI (l.map idT)).length c') (sortI (l.map idT)) ∧ Below w.heap.size w w' := by
  subst hn
  have HF := Aside0.mk (Kd.F_bound hC)
  have HL := Aside0.mk hl
  clear hC hl
  go_enter Try.func33, Try.ntmps33
  go_wp2
  go_loopg [3, 8] (l.length + 1) (fun kq v3 v8 wr => ∃ i : Nat, v8 = .int .i64 i ∧ Aside0 (i ≤ l.length) ∧ Aside0 (l.length - i < kq) ∧ Aside0 (kI.R 3 wr w.heap.size (fun _ => True) v3 ((l.take i).map idT)) ∧ Aside0 (Below w.heap.size w wr))
  case atStart => exact ⟨0, rfl, ⟨Nat.zero_le _⟩, ⟨by omega⟩, ⟨by simpa using Kd.R_nil _ _ _ _ _⟩, ⟨Below.refl _ _⟩⟩
  case round =>
    obtain ⟨i, rfl, HI, HK, HO, HB⟩ := hrel
    have hi := HI.out
    obtain ⟨Ao, co, rfl⟩ := Kd.R_slice HO.out
    by_cases hlt : i < l.length
    · have ht : decide (i < l.length) = true := decide_eq_true hlt
      have ht2 : decide ((i : Int) < (l.length : Int)) = true := decide_eq_true (by omega)
      obtain ⟨x, hx⟩ : ∃ x, x = l.getD i z47 := ⟨_, rfl⟩
      have HFr := Aside0.mk (Kd.F_step HF.out (fun k hk _ => HB.out.block k hk.2))
      obtain ⟨ad, A2, c2, rfl, x0, x1, x2, x3, x4, x5, x6, x7, x8, hl2, hF2⟩ := at_F47 HFr.out i hlt x hx
      have HMT := Aside0.mk (map_take l i hlt x hx)
      have HLT := Aside0.mk (show ((l.take i).map idT).length ≤ l.length from by rw [List.length_map, List.length_take]; omega)
      have hi0 : (0 : Int) ≤ (i : Int) := by omega
      have hi1 : (i : Int) < (l.length : Int) := by omega
      have hi2 : (i : Int) ≤ 1000 := by have := HL.out; omega
      clear hx hl2 hF2
      go_wp2_with (first | ((with_reducible refine gate_builtin (b := .append) (xs := #[.tmp 12, .tmp 16]) rfl ?_); at_builtin; go_must (refine Kd.R_append kI (w0 := w) (W := wr.alloc (.cells #[.int .i64 x.f0.f0, .int .i64 x.f0.f1, .slice A2 x.f0.f2.length c2, .int .i64 x.f1, .int .i64 x.f2, .int .i64 x.f3, .string x.f4, .string x.f5, .int .i64 x.f6] 47)) w.heap.size rfl (.tmp 12) (.tmp 16) 32 3 (.int .i64 0) 8 rfl Try.underlying32 info3 rfl (by decide) (by decide) (.slice Ao ((l.take i).map idT).length co) ((l.take i).map idT) (idT x) [.int .i64 (idT x)] (fun _ => True) (fun _ => False) rfl (by first | rfl | (simp; rfl) | simp) rfl (fun _ hk => hk.elim) (fun _ _ => trivial) (Kd.R_alloc HO.out _) (below_alloc HB.out _) (by have := HB.out.size; simp; omega) (by have := HL.out; have := HLT.out; omega) ?_); intro v9 w9 ho hb hg hat; have HO9 := Aside0.mk ho; have HB9 := Aside0.mk hb; clear ho hb hg hat))
      go_roundg (l.length - i)
      case measure => exact HK.out
      case rel => exact ⟨i + 1, by go_num, ⟨by omega⟩, ⟨by omega⟩, ⟨by rw [HMT.out]; exact HO9.out⟩, HB9⟩
    · have ht : decide (i < l.length) = false := decide_eq_false hlt
      have ht2 : decide ((i : Int) < (l.length : Int)) = false := decide_eq_false (by omega)
      have HO2 := HO.out
      have hft : (l.take i).map idT = l.map idT := by rw [List.take_of_length_le (by omega)]
      obtain ⟨zs, hzs⟩ : ∃ zs, zs = l.map idT := ⟨_, rfl⟩
      rw [← hzs] at hft
      rw [hft] at HO2
      have HLM := Aside0.mk (show zs.length ≤ 100000 from by rw [hzs, List.length_map]; have := HL.out; omega)
      have HO3 := Aside0.mk HO2
      have HZ := Aside0.mk hzs
      clear HO2 HO
      rw [hft]
      clear hft hzs
      go_wp2_with (first | (go_at_call 47; with_reducible refine (sort_c Ao co _ zs w.heap.size _ rfl HO3.out HLM.out).mono ?_; rintro e w5 ⟨rfl, hR5, hg5⟩; have HR5 := Aside0.mk hR5; have HB5 := Aside0.mk (HB.out.grown hg5 HB.out.size (Kd.R_base HO3.out)); clear hR5 hg5))
      go_ret
      rw [← HZ.out]
      exact ⟨Ao, co, by rw [sortI_length]; rfl, HR5.out, HB5.out⟩
set_option maxHeartbeats 4000000 in
set_option maxRecDepth 100000 in
theorem level_c (nn n s : Int) (vl : Value) (A : Option Addr) (c : Nat) (l : List S47) (w : World) (hq : ∀ x ∈ l, okT x) (hF : Kd.F k47 w (fun _ => True) A l.length l) (hc : l.length ≤ c) (hl : l.length ≤ 200) :
    Calls Try.prog 29 #[.agg #[.int .i64 n, .int .i64 s, vl, .slice A l.length c], .int .i64 nn] w fun e w' => ∃ A' c', e = .returned (.slice A' (l.filter (lvl nn)).length c') ∧ Kd.N k47 47 w' w.heap.size (fun _ => True) (.slice A' (l.filter (lvl nn)).length c') (l.filter (lvl nn)) ∧ Below w.heap.size w w' := by
  have hmf : ∀ (fn : Fn) (first cap : Array Value) (w : World), (Instr.makeFunc fn first cap).run Try.prog w = .ok (.func fn first cap) w := fun _ _ _ _ => rfl
  have HBA := Aside0.mk (below_alloc (below_alloc (Below.refl w.heap.size w) (.cells #[.int .i64 n, .int .i64 s, vl, .slice A l.length c] 25)) (.cells #[.int .i64 nn] 3))
  have HF := Aside0.mk (Kd.F_alloc (Kd.F_alloc hF (.cells #[.int .i64 n, .int .i64 s, vl, .slice A l.length c] 25)) (.cells #[.int .i64 nn] 3))
  have HT := Aside0.mk (tells43 nn (w.heap.size + 1) ((w.alloc (.cells #[.int .i64 n, .int .i64 s, vl, .slice A l.length c] 25)).alloc (.cells #[.int .i64 nn] 3)) (by have h := blk_new (w.alloc (.cells #[.int .i64 n, .int .i64 s, vl, .slice A l.length c] 25)) (.cells #[.int .i64 nn] 3); rwa [show (w.alloc (.cells #[.int .i64 n, .int .i64 s, vl, .slice A l.length c] 25)).heap.size = w.heap.size + 1 from by simp] at h))
  have HQ := Aside0.mk hq
  clear hq hF
  go_enter Try.func29, Try.ntmps29
  go_wp2_with (first | (go_at_call 38; with_reducible refine (of43 _ n s vl A c l _ (lvl nn) HT.out HQ.out HF.out hc hl).mono ?_; rintro e w2 ⟨A2, c2, rfl, hN2, hB2⟩; have HB2 := Aside0.mk (below_step HBA.out hB2); have HN2 := Aside0.mk (Kd.N_lower hN2 HBA.out.size); clear hB2 hN2))
  go_ret
  exact ⟨A2, c2, rfl, HN2.out, HB2.out⟩
set_option maxHeartbeats 4000000 in
set_option maxRecDepth 100000 in
theorem ovl_c (nn n s : Int) (lo hi : ByteArray) (vl : Value) (A : Option Addr) (c : Nat) (l : List S47) (w : World) (hq : ∀ x ∈ l, okT x) (hF : Kd.F k47 w (fun _ => True) A l.length l) (hc : l.length ≤ c) (hl : l.length ≤ 200) :
    Calls Try.prog 34 #[.agg #[.int .i64 n, .int .i64 s, vl, .slice A l.length c], .int .i64 nn, .agg #[.string lo, .string hi]] w fun e w' => ∃ A' c', e = .returned (.slice A' (sortI ((l.filter (ovP nn lo hi)).map idT)).length c') ∧ kI.R 3 w' w.heap.size (fun _ => True) (.slice A' (sortI ((l.filter (ovP nn lo hi)).map idT)).length c') (sortI ((l.filter (ovP nn lo hi)).map idT)) ∧ Below w.heap.size w w' := by
  have hmf : ∀ (fn : Fn) (first cap : Array Value) (w : World), (Instr.makeFunc fn first cap).run Try.prog w = .ok (.func fn first cap) w := fun _ _ _ _ => rfl
  obtain ⟨o1, ho1⟩ : ∃ o, o = Obj.cells #[.int .i64 n, .int .i64 s, vl, .slice A l.length c] 25 (0, 0) := ⟨_, rfl⟩
  have hbA := below_alloc (below_alloc (below_alloc (Below.refl w.heap.size w) (.cells #[.int .i64 n, .int .i64 s, vl, .slice A l.length c] 25)) (.cells #[.int .i64 nn] 3)) (.cells #[.string lo, .string hi] 72)
  have HBA := Aside0.mk hbA
  have HF := Aside0.mk (Kd.F_alloc (Kd.F_alloc (Kd.F_alloc hF (.cells #[.int .i64 n, .int .i64 s, vl, .slice A l.length c] 25)) (.cells #[.int .i64 nn] 3)) (.cells #[.string lo, .string hi] 72))
  have h1 : (((w.alloc (.cells #[.int .i64 n, .int .i64 s, vl, .slice A l.length c] 25)).alloc (.cells #[.int .i64 nn] 3)).alloc (.cells #[.string lo, .string hi] 72)).heap[w.heap.size + 1]? = some (.cells #[.int .i64 nn] 3 (0, 0)) := by
    have h := blk_alloc (blk_new (w.alloc (.cells #[.int .i64 n, .int .i64 s, vl, .slice A l.length c] 25)) (.cells #[.int .i64 nn] 3)) (.cells #[.string lo, .string hi] 72)
    rwa [show (w.alloc (.cells #[.int .i64 n, .int .i64 s, vl, .slice A l.length c] 25)).heap.size = w.heap.size + 1 from by simp] at h
  have h2 : (((w.alloc (.cells #[.int .i64 n, .int .i64 s, vl, .slice A l.length c] 25)).alloc (.cells #[.int .i64 nn] 3)).alloc (.cells #[.string lo, .string hi] 72)).heap[w.heap.size + 1 + 1]? = some (.cells #[.string lo, .string hi] 72 (0, 0)) := by
    have h := blk_new ((w.alloc (.cells #[.int .i64 n, .int .i64 s, vl, .slice A l.length c] 25)).alloc (.cells #[.int .i64 nn] 3)) (.cells #[.string lo, .string hi] 72)
    rwa [show ((w.alloc (.cells #[.int .i64 n, .int .i64 s, vl, .slice A l.length c] 25)).alloc (.cells #[.int .i64 nn] 3)).heap.size = w.heap.size + 1 + 1 from by simp] at h
  have HT := Aside0.mk (tells48 nn lo hi _ _ _ h1 h2)
  have HQ := Aside0.mk hq
  clear hq hF hbA h1 h2 ho1 o1
  go_enter Try.func34, Try.ntmps34
  go_wp2_with (first | (go_at_call 38; with_reducible refine (of48 _ _ n s vl A c l _ (ovP nn lo hi) HT.out HQ.out HF.out hc hl).mono ?_; rintro e w2 ⟨A2, c2, rfl, hN2, hB2⟩; have HB2 := Aside0.mk (below_step HBA.out hB2); have HV2 := Aside0.mk (Kd.N_F hN2); have HC2 := Aside0.mk (Kd.N_reads' hN2).2.1; have HLF := Aside0.mk (show (l.filter (ovP nn lo hi)).length ≤ 1000 from Nat.le_trans (List.length_filter_le _ _) (by omega)); clear hB2 hN2) | (go_at_call 33; with_reducible refine (ids_c A2 c2 _ (l.filter (ovP nn lo hi)) _ rfl HV2.out HC2.out HLF.out).mono ?_; rintro e w3 ⟨A3, c3, rfl, hR3, hB3⟩; have HB3 := Aside0.mk (below_step HB2.out hB3); have HR3 := Aside0.mk (Kd.R_lower hR3 HB2.out.size); clear hB3 hR3))
  go_ret
  exact ⟨A3, c3, rfl, HR3.out, HB3.out⟩
set_option maxHeartbeats 4000000 in
set_option maxRecDepth 100000 in
theorem overlap_c (nn n s : Int) (lo hi : ByteArray) (vl : Value) (A : Option Addr) (c : Nat) (l : List S47) (w : World) (hq : ∀ x ∈ l, okT x) (hF : Kd.F k47 w (fun _ => True) A l.length l) (hc : l.length ≤ c) (hl : l.length ≤ 200) :
    Calls Try.prog 19 #[.agg #[.int .i64 n, .int .i64 s, vl, .slice A l.length c], .int .i64 nn, .string lo, .string hi] w fun e w' => ∃ A' c', e = .returned (.slice A' (sortI ((l.filter (ovP nn lo hi)).map idT)).length c') ∧ kI.R 3 w' w.heap.size (fun _ => True) (.slice A' (sortI ((l.filter (ovP nn lo hi)).map idT)).length c') (sortI ((l.filter (ovP nn lo hi)).map idT)) ∧ Below w.heap.size w w' := by
  have HBA := Aside0.mk (below_alloc (Below.refl w.heap.size w) (.cells #[.int .i64 n, .int .i64 s, vl, .slice A l.length c] 25))
  have HF := Aside0.mk (Kd.F_alloc hF (.cells #[.int .i64 n, .int .i64 s, vl, .slice A l.length c] 25))
  have HQ := Aside0.mk hq
  clear hq hF
  go_enter Try.func19, Try.ntmps19
  go_wp2_with (first | (go_at_call 34; with_reducible refine (ovl_c nn n s lo hi vl A c l _ HQ.out HF.out hc hl).mono ?_; rintro e w3 ⟨A3, c3, rfl, hR3, hB3⟩; have HB3 := Aside0.mk (below_step HBA.out hB3); have HR3 := Aside0.mk (Kd.R_lower hR3 HBA.out.size); clear hB3 hR3))
  go_ret
  exact ⟨A3, c3, rfl, HR3.out, HB3.out⟩
end Go.Proofs.Ytgnmdhjnpbnacaa.PB
end
section
set_option linter.unusedVariables false
set_option linter.unusedSimpArgs false
namespace Go.Proofs.Ytgnmdhjnpbnacaa.PB
open Go.RowKit Go.Proofs.YtgnmdhjnpbnacaaW.PrintWords Go.Proofs.YtgnmdhjnpbnacaaW.PrintLast Go.Proofs.YtgnmdhjnpbnacaaW.PrintMore
def cntL (l : List S47) (n : Int) : Int := ((l.filter (lvl n)).length : Int)
def fullB (l : List S47) (n : Int) : Bool := decide (limN n < cntL l n)
def fullTo (l : List S47) : Nat → List Int
  | 0 => []
  | i + 1 => fullTo l i ++ if fullB l (i : Int) then [(i : Int)] else []
theorem fullTo_len (l : List S47) : ∀ i, (fullTo l i).length ≤ i
  | 0 => Nat.le_refl _
  | i + 1 => by
    rw [fullTo, List.length_append]
    have := fullTo_len l i
    split <;> simp <;> omega
theorem level_2 (nn n s : Int) (ni : Int) (hni : ni = nn) (vl : Value) (A : Option Addr) (c : Nat) (l : List S47) (w : World) (hq : ∀ x ∈ l, okT x) (hF : Kd.F k47 w (fun _ => True) A l.length l) (hc : l.length ≤ c) (hl : l.length ≤ 200) :
    Calls Try.prog 29 #[.agg #[.int .i64 n, .int .i64 s, vl, .slice A l.length c], .int .i64 ni] w fun e w' => ∃ (A' : Option Addr) (c' m : Nat), e = .returned (.slice A' m c') ∧ (m : Int) = cntL l nn ∧ m ≤ 200 ∧ Below w.heap.size w w' := by
  subst hni
  refine (level_c ni n s vl A c l w hq hF hc hl).mono ?_
  rintro e w' ⟨A', c', rfl, h1, h2⟩
  exact ⟨A', c', _, rfl, rfl, Nat.le_trans (List.length_filter_le _ _) hl, h2⟩
theorem limit_2 (n : Int) (m : Int) (hm : limN n = m) (w : World) (h0 : 0 ≤ n) (h1 : n ≤ 3) : Calls Try.prog 15 #[.int .i64 n] w fun e w' => e = .returned (.int .i64 m) ∧ Below w.heap.size w w' := by
  subst hm
  exact limit_c n w (by omega) (by omega)
set_option maxHeartbeats 4000000 in
set_option maxRecDepth 100000 in
theorem full_c (n s : Int) (vl : Value) (A : Option Addr) (c : Nat) (l : List S47) (w : World) (hq : ∀ x ∈ l, okT x) (hF : Kd.F k47 w (fun _ => True) A l.length l) (hc : l.length ≤ c) (hl : l.length ≤ 200) :
    Calls Try.prog 18 #[.agg #[.int .i64 n, .int .i64 s, vl, .slice A l.length c]] w fun e w' => ∃ A' c', e = .returned (.slice A' (fullTo l 3).length c') ∧ kI.R 3 w' w.heap.size (fun _ => True) (.slice A' (fullTo l 3).length c') (fullTo l 3) ∧ Below w.heap.size w w' := by
  have HBA := Aside0.mk (below_alloc (Below.refl w.heap.size w) (.cells #[.int .i64 n, .int .i64 s, vl, .slice A l.length c] 25))
  have HG := Aside0.mk (blk_new w (.cells #[.int .i64 n, .int .i64 s, vl, .slice A l.length c] 25))
  have HF := Aside0.mk (Kd.F_bound hF)
  have HQ := Aside0.mk hq
  clear hq hF
  go_enter Try.func18, Try.ntmps18
  go_wp2
  go_loopg [3, 5] 4 (fun kq v3 v5 wr => ∃ i : Nat, v5 = .int .i64 i ∧ Aside0 (i ≤ 3) ∧ Aside0 (3 - i < kq) ∧ Aside0 (kI.R 3 wr w.heap.size (fun _ => True) v3 (fullTo l i)) ∧ Aside0 (Below w.heap.size w wr) ∧ Aside0 (wr.heap[w.heap.size]? = some (.cells #[.int .i64 n, .int .i64 s, vl, .slice A l.length c] 25 (0, 0))))
  case atStart => exact ⟨0, rfl, ⟨by omega⟩, ⟨by omega⟩, ⟨Kd.R_nil _ _ _ _ _⟩, HBA, HG⟩
  case round =>
    obtain ⟨i, rfl, HI, HK, HO, HB, HGr⟩ := hrel
    have hi := HI.out
    obtain ⟨Ao, co, rfl⟩ := Kd.R_slice HO.out
    by_cases hlt : i < 3
    · have ht : decide (i < 3) = true := decide_eq_true hlt
      have ht2 : decide ((i : Int) < 3) = true := decide_eq_true (by omega)
      have HFr := Aside0.mk (Kd.F_mono (ok' := fun _ => True) (Kd.F_step HF.out (fun k hk _ => HB.out.block k hk.2)) (fun _ _ => trivial))
      have e0 := blk_cell HGr.out 0
      have e1 := blk_cell HGr.out 1
      have e2 := blk_cell HGr.out 2
      have e3 := blk_cell HGr.out 3
      obtain ⟨lm, hlm⟩ : ∃ lm, limN (i : Int) = lm := ⟨_, rfl⟩
      have hi3 : (i : Int) ≤ 3 := by omega
      have HLM := Aside0.mk hlm
      clear hlm
      by_cases hfb : limN (i : Int) < cntL l (i : Int)
      · have hft : fullTo l (i + 1) = fullTo l i ++ [(i : Int)] := by rw [fullTo]; unfold fullB; rw [decide_eq_true hfb]; rfl
        have HFT := Aside0.mk hft
        have HFB := Aside0.mk hfb
        have HLN := Aside0.mk (fullTo_len l i)
        clear hft hfb
        go_wp2_with (first | (go_at_call 29; with_reducible refine (level_2 i n s _ rfl vl A c l _ HQ.out HFr.out hc hl).mono ?_; rintro e w2 ⟨A2, c2, m2, rfl, hm2, hm2b, hB2⟩; have hcmp : decide (lm < (m2 : Int)) = true := decide_eq_true (by rw [hm2, ← HLM.out]; exact HFB.out); have HB2 := Aside0.mk (below_step HB.out hB2); have HO2 := Aside0.mk (Kd.R_below HO.out hB2); have HG2 := Aside0.mk (blk_below HGr.out hB2); clear hB2 hm2 hm2b) | (go_at_call 15; with_reducible refine (limit_2 i lm HLM.out _ (by omega) (by omega)).mono ?_; rintro e w3 ⟨rfl, hB3⟩; have HB3 := Aside0.mk (below_step HB2.out hB3); have HO3 := Aside0.mk (Kd.R_below HO2.out hB3); have HG3 := Aside0.mk (blk_below HG2.out hB3); clear hB3) | ((with_reducible refine gate_builtin (b := .append) (xs := #[.tmp 15, .tmp 17]) rfl ?_); at_builtin; go_must (refine Kd.R_append kI (w0 := w) (W := w3) w.heap.size rfl (.tmp 15) (.tmp 17) 32 3 (.int .i64 0) 8 rfl Try.underlying32 info3 rfl (by decide) (by decide) (.slice Ao (fullTo l i).length co) (fullTo l i) (i : Int) [.int .i64 (i : Int)] (fun _ => True) (fun _ => False) rfl (by first | rfl | (simp; rfl) | simp) rfl (fun _ hk => hk.elim) (fun _ _ => trivial) HO3.out HB3.out HB3.out.size (by have := HLN.out; omega) ?_); intro v9 w9 ho hb hg hat; have HO9 := Aside0.mk ho; have HB9 := Aside0.mk hb; have HG9 := Aside0.mk (blk_grown HG3.out hg (fun e => absurd (Kd.R_typed HO3.out _ e.symm) (by rintro ⟨cells, hcells⟩; rw [HG3.out] at hcells; injection hcells with hcells; injection hcells with _ ht; exact absurd ht (by decide)))); clear ho hb hg hat))
        go_roundg (3 - i)
        case measure => exact HK.out
        case rel => exact ⟨i + 1, by go_num, ⟨by omega⟩, ⟨by omega⟩, ⟨by rw [HFT.out]; exact HO9.out⟩, HB9, HG9⟩
      · have hft : fullTo l (i + 1) = fullTo l i := by rw [fullTo]; unfold fullB; rw [decide_eq_false hfb]; simp
        have HFT := Aside0.mk hft
        have HFB := Aside0.mk hfb
        clear hft hfb
        go_wp2_with (first | (go_at_call 29; with_reducible refine (level_2 i n s _ rfl vl A c l _ HQ.out HFr.out hc hl).mono ?_; rintro e w2 ⟨A2, c2, m2, rfl, hm2, hm2b, hB2⟩; have hcmp : decide (lm < (m2 : Int)) = false := decide_eq_false (by rw [hm2, ← HLM.out]; exact HFB.out); have HB2 := Aside0.mk (below_step HB.out hB2); have HO2 := Aside0.mk (Kd.R_below HO.out hB2); have HG2 := Aside0.mk (blk_below HGr.out hB2); clear hB2 hm2 hm2b) | (go_at_call 15; with_reducible refine (limit_2 i lm HLM.out _ (by omega) (by omega)).mono ?_; rintro e w3 ⟨rfl, hB3⟩; have HB3 := Aside0.mk (below_step HB2.out hB3); have HO3 := Aside0.mk (Kd.R_below HO2.out hB3); have HG3 := Aside0.mk (blk_below HG2.out hB3); clear hB3))
        go_roundg (3 - i)
        case measure => exact HK.out
        case rel => exact ⟨i + 1, by go_num, ⟨by omega⟩, ⟨by omega⟩, ⟨by rw [HFT.out]; exact HO3.out⟩, HB3, HG3⟩
    · have ht : decide (i < 3) = false := decide_eq_false hlt
      have ht2 : decide ((i : Int) < 3) = false := decide_eq_false (by omega)
      obtain rfl : i = 3 := by omega
      go_wp2
      go_ret
      exact ⟨Ao, co, rfl, HO.out, HB.out⟩
end Go.Proofs.Ytgnmdhjnpbnacaa.PB
end
section
set_option linter.unusedVariables false
set_option linter.unusedSimpArgs false
namespace Go.Proofs.Ytgnmdhjnpbnacaa.PB
open Go.RowKit Go.Proofs.YtgnmdhjnpbnacaaW.PrintWords Go.Proofs.YtgnmdhjnpbnacaaW.PrintLast Go.Proofs.YtgnmdhjnpbnacaaW.PrintMore
theorem store4_event {P : Program} {ops : Array Oper} {rest : List Oper} {o : Oper} {a : Act} {Q : Exit → Act → World → Prop} {W : World} (hgd : o.guard = none) (hN : o.dst = none) {T e : TypeId} {p x : Operand} {cs cur : Array Value} {g : Nat} (ho : o.op = .store T p x)
    (hp : a.eval p = .pointer (some ⟨g, 0, none⟩)) (hx : a.eval x = .agg cs) (hb : W.heap[g]? = some (.cells cur e (0, 0)))
    (hi : (P.info? T).map (·.size) = some cs.size) (hn : cur.size = cs.size) (h1 : ∀ q ∈ cs.toList, q.oneCell' = true)
    (h : ∀ w1, w1.heap[g]? = some (.cells cs e (0, 0)) → W.grownBy w1 (some g) → w1.heap.size = W.heap.size → wpList P ops Q rest a w1) : wpList P ops Q (o :: rest) a W := by
  refine store_agg_event hgd hN ho hp hx hb hi (by omega) h1 fun w1 hb1 hg1 hs1 => h w1 ?_ hg1 hs1
  rw [hb1, hn, show cur.extract cs.size cs.size = #[] from by simp; omega, Array.append_empty]
theorem grownB {w W W1 : World} {g : Nat} (hB : Below w.heap.size w W) (hg : W.grownBy W1 (some g)) (hlt : w.heap.size ≤ g) : Below w.heap.size w W1 := hB.grown hg hB.size (fun k hk => by injection hk with hk; omega)
theorem size72 : (Try.prog.info? 72).map (·.size) = some 2 := by kernel_rfl
theorem end35 {R : Ending → World → Prop} {W : World} {a : Act} {g : Nat} {cs : Array Value} (hblk : W.heap[g]? = some (.cells cs 72 (0, 0))) (hs : cs.size = 2) (h2 : a.tmps.getD 2 undef = .pointer (some ⟨g, 0, none⟩))
    (hpost : R (.returned (.agg cs)) W) (hd : a.defers = [] := by rfl) : bodyPost Try.prog Try.f35 R Exit.ret a W :=
  bodyPost_ret (v := .agg cs) (results_single (r := .cell 2 72) rfl (.cell g 72 cs (0, 0) _ h2 hblk Try.underlying72 rfl (by rw [size72, hs]) .nil)) hd hpost
def minS (a b : ByteArray) : ByteArray := if leS a b = true then a else b
def maxS (a b : ByteArray) : ByteArray := if Op.bytesLess a.toList b.toList = true then b else a
theorem min_run (ats : Array TypeId) (ty : TypeId) (a b : ByteArray) (W : World) : (Builtin.min_ ats ty #[.string a, .string b]).run Try.prog W = .ok (.string (minS a b)) W := by
  simp [Builtin.min_, Builtin.min2, Op.stringOp, minS, leS, asBool]
theorem max_run (ats : Array TypeId) (ty : TypeId) (a b : ByteArray) (W : World) : (Builtin.max_ ats ty #[.string a, .string b]).run Try.prog W = .ok (.string (maxS a b)) W := by
  unfold maxS
  cases h : Op.bytesLess a.toList b.toList <;> simp [Builtin.max_, Builtin.max2, Op.stringOp, asBool, h]
def arStep (s : ByteArray × ByteArray) (x : S47) : ByteArray × ByteArray := (minS s.1 x.f4, maxS s.2 x.f5)
def arTo (l : List S47) (i : Nat) : ByteArray × ByteArray := (l.take i).foldl arStep ((l.getD 0 z47).f4, (l.getD 0 z47).f5)
def arL (l : List S47) : ByteArray × ByteArray := l.foldl arStep ((l.getD 0 z47).f4, (l.getD 0 z47).f5)
theorem arTo_next (l : List S47) (i : Nat) (hi : i < l.length) (x : S47) (hx : x = l.getD i z47) : arTo l (i + 1) = arStep (arTo l i) x := by
  have hD : l.getD i z47 = l[i] := by rw [List.getD_eq_getElem?_getD, List.getElem?_eq_getElem hi]; rfl
  unfold arTo
  rw [List.take_succ_eq_append_getElem hi, List.foldl_append, hx, hD]
  rfl
set_option maxHeartbeats 4000000 in
set_option maxRecDepth 100000 in
theorem around_c (A : Option Addr) (c : Nat) (l : List S47) (w : World) (hF : Kd.F k47 w (fun _ => True) A l.length l) (hc : l.length ≤ c) (hl : l.length ≤ 200) (h1 : 1 ≤ l.length) :
    Calls Try.prog 35 #[.slice A l.length c] w fun e w' => e = .returned (.agg #[.string (arL l).1, .string (arL l).2]) ∧ Below w.heap.size w w' := by
  obtain ⟨x, hx⟩ : ∃ x, x = l.getD 0 z47 := ⟨_, rfl⟩
  have HFA := Aside0.mk (Kd.F_alloc hF (.cells #[.string ⟨#[]⟩, .string ⟨#[]⟩] 72))
  have HF := Aside0.mk (Kd.F_bound hF)
  have HL := Aside0.mk hl
  obtain ⟨ad, A2, c2, rfl, x0, x1, x2, x3, x4, x5, x6, x7, x8, hl2, hF2⟩ := at_F47 HFA.out 0 h1 x hx
  have hi0 : (0 : Int) < (l.length : Int) := by omega
  have had : ad.add 0 = ad := by simp [Addr.add]
  rw [Nat.zero_mul, had] at x6 x7
  have y6 : ∀ o, ((w.alloc (.cells #[.string ⟨#[]⟩, .string ⟨#[]⟩] 72)).alloc o).cell? ⟨ad.block, ad.off + 6, none⟩ = some (.string x.f4) := fun o => pw_cell_below (below_alloc (Below.refl _ _) o) x6
  have y7 : ∀ o, ((w.alloc (.cells #[.string ⟨#[]⟩, .string ⟨#[]⟩] 72)).alloc o).cell? ⟨ad.block, ad.off + 7, none⟩ = some (.string x.f5) := fun o => pw_cell_below (below_alloc (Below.refl _ _) o) x7
  have hn0 : 0 < l.length := h1
  have HX0 := Aside0.mk hx
  have HB0 := Aside0.mk (below_drew (below_alloc (below_alloc (Below.refl w.heap.size w) (.cells #[.string ⟨#[]⟩, .string ⟨#[]⟩] 72)) (.cells #[.string x.f4, .string x.f5] 72)))
  have HG2 := Aside0.mk (blk_drew (blk_alloc (blk_new w (.cells #[.string ⟨#[]⟩, .string ⟨#[]⟩] 72)) (.cells #[.string x.f4, .string x.f5] 72)))
  have HG3 := Aside0.mk (show ((w.alloc (.cells #[.string ⟨#[]⟩, .string ⟨#[]⟩] 72)).alloc (.cells #[.string x.f4, .string x.f5] 72)).drew.heap[w.heap.size + 1]? = some (.cells #[.string x.f4, .string x.f5] 72 (0, 0)) from by have h := blk_new (w.alloc (.cells #[.string ⟨#[]⟩, .string ⟨#[]⟩] 72)) (.cells #[.string x.f4, .string x.f5] 72); rw [show (w.alloc (.cells #[.string ⟨#[]⟩, .string ⟨#[]⟩] 72)).heap.size = w.heap.size + 1 from by simp] at h; exact h)
  have HS0 := Aside0.mk (show arTo l 0 = (x.f4, x.f5) from by unfold arTo; rw [hx]; rfl)
  clear hF hF2 hl2 x0 x1 x2 x3 x4 x5 x8 had hx hl
  go_enter Try.func35, Try.ntmps35
  go_wp2
  go_region
  go_wp2
  go_loopg [17] (l.length + 1) (fun kq v17 wr => ∃ i : Nat, v17 = .int .i64 i ∧ Aside0 (i ≤ l.length) ∧ Aside0 (l.length - i < kq) ∧ Aside0 (Below w.heap.size w wr) ∧ Aside0 (wr.heap[w.heap.size]? = some (.cells #[.string ⟨#[]⟩, .string ⟨#[]⟩] 72 (0, 0))) ∧ Aside0 (wr.heap[w.heap.size + 1]? = some (.cells #[.string (arTo l i).1, .string (arTo l i).2] 72 (0, 0))))
  case atStart => exact ⟨0, rfl, ⟨Nat.zero_le _⟩, ⟨by omega⟩, HB0, HG2, ⟨by rw [HS0.out]; exact HG3.out⟩⟩
  case round =>
    obtain ⟨i, rfl, HI, HK, HB, HR2, HR3⟩ := hrel
    clear HB0 HG2 HG3 HFA y6 y7 x6 x7
    have hil := HI.out
    obtain ⟨lo, hlo⟩ : ∃ s, s = (arTo l i).1 := ⟨_, rfl⟩
    obtain ⟨hi, hhi⟩ : ∃ s, s = (arTo l i).2 := ⟨_, rfl⟩
    rw [← hlo, ← hhi] at HR3
    by_cases hlt : i < l.length
    · have ht : decide (i < l.length) = true := decide_eq_true hlt
      have ht2 : decide ((i : Int) < (l.length : Int)) = true := decide_eq_true (by omega)
      obtain ⟨x, hx⟩ : ∃ x, x = l.getD i z47 := ⟨_, rfl⟩
      have HFr := Aside0.mk (Kd.F_step HF.out (fun k hk _ => HB.out.block k hk.2))
      obtain ⟨ad', A2, c2, he, x0, x1, x2, x3, x4, x5, x6, x7, x8, hl2, hF2⟩ := at_F47 HFr.out i hlt x hx
      injection he with he
      subst he
      have hi0 : (0 : Int) ≤ (i : Int) := by omega
      have hi1 : (i : Int) < (l.length : Int) := by omega
      have hi2 : (i : Int) ≤ 200 := by have := HL.out; omega
      have HN := Aside0.mk (arTo_next l i hlt x hx)
      have d0 : ∀ o, (wr.alloc o).cell? ⟨w.heap.size + 1, 0, none⟩ = some (.string lo) := fun o => (blk_cell (blk_alloc HR3.out o) 0).trans rfl
      have d1 : ∀ o, (wr.alloc o).cell? ⟨w.heap.size + 1, 1, none⟩ = some (.string hi) := fun o => (blk_cell (blk_alloc HR3.out o) 1).trans rfl
      have df : ∀ o (k : Nat), (wr.alloc o).frozen? ⟨w.heap.size + 1, k, none⟩ = false := fun o k => blk_frozen (blk_alloc HR3.out o) k
      have hn1 : wr.heap.size ≠ w.heap.size + 1 := Nat.ne_of_gt (blk_lt HR3.out)
      have hn2 : ¬ (w.heap.size + 1 = wr.heap.size) := fun e => hn1 e.symm
      have hmn := min_run
      have hmx := max_run
      have HLO := Aside0.mk hlo
      have HHI := Aside0.mk hhi
      have HFX := Aside0.mk hx
      clear hx hl2 hF2 hlo hhi
      go_wp2
      go_region
      go_wp2
      go_roundg (l.length - i)
      case measure => exact HK.out
      case rel =>
        refine ⟨i + 1, by go_num, ⟨by omega⟩, ⟨by omega⟩, ⟨below_drew (((below_alloc HB.out _).setCell (Nat.le_succ _) _).setCell (Nat.le_succ _) _)⟩, ⟨blk_drew (blk_far (blk_far (blk_alloc HR2.out _) (p := ⟨w.heap.size + 1, 0, none⟩) (by show w.heap.size ≠ w.heap.size + 1; omega) _) (p := ⟨w.heap.size + 1, 1, none⟩) (by show w.heap.size ≠ w.heap.size + 1; omega) _)⟩, ⟨?_⟩⟩
        have h9 := blk_drew (blk_set (blk_set (blk_alloc HR3.out (.cells #[.int .i64 x.f0.f0, .int .i64 x.f0.f1, .slice A2 x.f0.f2.length c2, .int .i64 x.f1, .int .i64 x.f2, .int .i64 x.f3, .string x.f4, .string x.f5, .int .i64 x.f6] 47)) 0 (.string (minS lo x.f4))) 1 (.string (maxS hi x.f5)))
        rw [HN.out]
        unfold arStep
        rw [← HLO.out, ← HHI.out]
        exact h9
    · have ht : decide (i < l.length) = false := decide_eq_false hlt
      have ht2 : decide ((i : Int) < (l.length : Int)) = false := decide_eq_false (by omega)
      obtain rfl : i = l.length := by omega
      have hal : arTo l l.length = arL l := by unfold arTo arL; rw [List.take_of_length_le (Nat.le_refl _)]
      have HAL := Aside0.mk (show (arL l).1 = lo ∧ (arL l).2 = hi from by rw [← hal, hlo, hhi]; exact ⟨rfl, rfl⟩)
      have d0 := blk_cell HR3.out 0
      have d1 := blk_cell HR3.out 1
      clear hlo hhi hal
      go_wp2_with (first | ((with_reducible refine gate_store (t := 72) (p := 2) (v := .tmp 34) rfl ?_); refine store4_event (cs := #[.string lo, .string hi]) rfl rfl rfl rfl rfl HR2.out size72 rfl (by intro q hq; simp at hq; rcases hq with rfl | rfl <;> rfl) ?_; intro w9 hb9 hg9 hs9; have HG9 := Aside0.mk hb9; have HB9 := Aside0.mk (grownB HB.out hg9 (Nat.le_refl _)); clear hb9 hg9 hs9))
      exact end35 HG9.out rfl rfl ⟨by rw [HAL.out.1, HAL.out.2], HB9.out⟩
end Go.Proofs.Ytgnmdhjnpbnacaa.PB
end
section
set_option linter.unusedVariables false
set_option linter.unusedSimpArgs false
namespace Go.Proofs.Ytgnmdhjnpbnacaa.PB
open Go.RowKit Go.Proofs.YtgnmdhjnpbnacaaW.PrintWords Go.Proofs.YtgnmdhjnpbnacaaW.PrintLast Go.Proofs.YtgnmdhjnpbnacaaW.PrintMore
theorem size34 : (Try.prog.info? 34).map (·.size) = some 3 := by kernel_rfl
theorem end10 {R : Ending → World → Prop} {W : World} {a : Act} {g : Nat} {cs : Array Value} {v3 : Value} (hblk : W.heap[g]? = some (.cells cs 34 (0, 0))) (hs : cs.size = 3) (h2 : a.tmps.getD 2 undef = .pointer (some ⟨g, 0, none⟩)) (h3 : a.tmps.getD 3 undef = v3)
    (hpost : R (.returned (.tuple #[.agg cs, v3])) W) (hd : a.defers = [] := by rfl) : bodyPost Try.prog Try.f10 R Exit.ret a W := by
  refine bodyPost_ret (v := .tuple #[.agg cs, v3]) ?_ hd hpost
  rw [← h3]
  exact results_list (rs := [.cell 2 34, .tmp 3]) rfl (by simp) (.cell g 34 cs (0, 0) _ h2 hblk Try.underlying34 rfl (by rw [size34, hs]) (.tmp .nil))
set_option maxHeartbeats 4000000 in
set_option maxRecDepth 100000 in
theorem pick_none (n s : Int) (vl : Value) (A : Option Addr) (c : Nat) (l : List S47) (w : World) (hq : ∀ x ∈ l, okT x) (hF : Kd.F k47 w (fun _ => True) A l.length l) (hc : l.length ≤ c) (hl : l.length ≤ 200) (h : fullTo l 3 = []) :
    Calls Try.prog 10 #[.agg #[.int .i64 n, .int .i64 s, vl, .slice A l.length c]] w fun e w' => e = .returned (.tuple #[.agg #[.int .i64 0, .slice none 0 0, .slice none 0 0], .bool false]) ∧ Below w.heap.size w w' := by
  have HBA := Aside0.mk (below_alloc (below_alloc (Below.refl w.heap.size w) (.cells #[.int .i64 n, .int .i64 s, vl, .slice A l.length c] 25)) (.cells #[.int .i64 0, .slice none 0 0, .slice none 0 0] 34))
  have HG2 := Aside0.mk (show ((w.alloc (.cells #[.int .i64 n, .int .i64 s, vl, .slice A l.length c] 25)).alloc (.cells #[.int .i64 0, .slice none 0 0, .slice none 0 0] 34)).heap[w.heap.size + 1]? = some (.cells #[.int .i64 0, .slice none 0 0, .slice none 0 0] 34 (0, 0)) from by have h := blk_new (w.alloc (.cells #[.int .i64 n, .int .i64 s, vl, .slice A l.length c] 25)) (.cells #[.int .i64 0, .slice none 0 0, .slice none 0 0] 34); rwa [show (w.alloc (.cells #[.int .i64 n, .int .i64 s, vl, .slice A l.length c] 25)).heap.size = w.heap.size + 1 from by simp] at h)
  have HF := Aside0.mk (Kd.F_alloc (Kd.F_alloc hF (.cells #[.int .i64 n, .int .i64 s, vl, .slice A l.length c] 25)) (.cells #[.int .i64 0, .slice none 0 0, .slice none 0 0] 34))
  have HQ := Aside0.mk hq
  have HE := Aside0.mk h
  clear hq hF h
  go_enter Try.func10, Try.ntmps10
  go_wp2_with (first | (go_at_call 18; with_reducible refine (full_c n s vl A c l _ HQ.out HF.out hc hl).mono ?_; (rw [HE.out]); rintro e w2 ⟨A2, c2, rfl, hR2, hB2⟩; have HB2 := Aside0.mk (below_step HBA.out hB2); have HG3 := Aside0.mk (blk_below HG2.out hB2); clear hB2 hR2) | ((with_reducible refine gate_store (t := 34) (p := 2) (v := .tmp 14) rfl ?_); refine store4_event (cs := #[.int .i64 0, .slice none 0 0, .slice none 0 0]) rfl rfl rfl rfl rfl HG3.out size34 rfl (by intro q hq; simp at hq; rcases hq with rfl | rfl | rfl <;> rfl) ?_; intro w9 hb9 hg9 hs9; have HG9 := Aside0.mk hb9; have HB9 := Aside0.mk (grownB HB2.out hg9 (Nat.le_succ _)); clear hb9 hg9 hs9))
  exact end10 HG9.out rfl rfl rfl ⟨rfl, HB9.out⟩
theorem full_2 (n s : Int) (vl : Value) (A : Option Addr) (c : Nat) (l : List S47) (w : World) (hq : ∀ x ∈ l, okT x) (hF : Kd.F k47 w (fun _ => True) A l.length l) (hc : l.length ≤ c) (hl : l.length ≤ 200) (k : Int) (rest : List Int) (h : fullTo l 3 = k :: rest) :
    Calls Try.prog 18 #[.agg #[.int .i64 n, .int .i64 s, vl, .slice A l.length c]] w fun e w' => ∃ (ad : Addr) (m c' : Nat), e = .returned (.slice (some ad) m c') ∧ 0 < m ∧ m ≤ 3 ∧ w'.cell? ad = some (.int .i64 k) ∧ Below w.heap.size w w' := by
  refine (full_c n s vl A c l w hq hF hc hl).mono ?_
  rintro e w' ⟨A', c', rfl, hR, hB⟩
  have hln := fullTo_len l 3
  have hC := (Kd.R_reads' hR).2.2
  rw [h] at hC hln ⊢
  obtain ⟨ad, cc, rfl, _, hK, hcc⟩ := Kd.C_get hC 0 0 (by omega) (by simp only [List.length_cons]; omega)
  have hK2 : cc = [.int .i64 k] := hK
  subst hK2
  have h0 := hcc 0 _ rfl
  exact ⟨ad, _, c', rfl, by simp, hln, by simpa [Addr.add] using h0, hB⟩
/-- what Pick's last statement leans on, in each world it comes to. -/
structure PS (w0 : World) (g1 g2 : Nat) (vs1 vs2 : Array Value) (A : Option Addr) (l : List S47) (B : Option Addr) (li : List S47) (w' : World) : Prop where
  below : Below w0.heap.size w0 w'
  fl : Kd.F k47 w' (fun _ => True) A l.length l
  fi : Kd.F k47 w' (fun _ => True) B li.length li
  b1 : w'.heap[g1]? = some (.cells vs1 25 (0, 0))
  b2 : w'.heap[g2]? = some (.cells vs2 34 (0, 0))
theorem PS.to {w0 : World} {g1 g2 : Nat} {vs1 vs2 : Array Value} {A : Option Addr} {l : List S47} {B : Option Addr} {li : List S47} {w' w2 : World} (h : PS w0 g1 g2 vs1 vs2 A l B li w') (hB : Below w'.heap.size w' w2) : PS w0 g1 g2 vs1 vs2 A l B li w2 :=
  ⟨below_step h.below hB, Kd.F_below h.fl hB, Kd.F_below h.fi hB, blk_below h.b1 hB, blk_below h.b2 hB⟩
theorem PS.drew {w0 : World} {g1 g2 : Nat} {vs1 vs2 : Array Value} {A : Option Addr} {l : List S47} {B : Option Addr} {li : List S47} {w' : World} (h : PS w0 g1 g2 vs1 vs2 A l B li w') : PS w0 g1 g2 vs1 vs2 A l B li w'.drew := h.to (below_drew (Below.refl _ _))
/-- what the region of Pick's last statement may lean on at each of its worlds: the two boxes, the second one's cells unsaid. -/
structure PL (g1 g2 : Nat) (vs1 : Array Value) (w' : World) : Prop where
  ne : g1 ≠ g2
  b1 : w'.heap[g1]? = some (.cells vs1 25 (0, 0))
  b2 : ∃ x y z, w'.heap[g2]? = some (.cells #[x, y, z] 34 (0, 0))
@[irreducible] def qc (w : World) (g k : Nat) : Value := (w.cell? ⟨g, k, none⟩).getD undef
theorem qc_cell {w : World} {g k : Nat} {v : Value} (h : w.cell? ⟨g, k, none⟩ = some v) : w.cell? ⟨g, k, none⟩ = some (qc w g k) := by
  unfold qc; rw [h]; rfl
theorem PS.pl {w0 : World} {g1 g2 : Nat} {vs1 : Array Value} {x y z : Value} {A : Option Addr} {l : List S47} {B : Option Addr} {li : List S47} {w' : World} (h : PS w0 g1 g2 vs1 #[x, y, z] A l B li w') (hn : g1 ≠ g2) : PL g1 g2 vs1 w' := ⟨hn, h.b1, x, y, z, h.b2⟩
theorem PL.to {g1 g2 : Nat} {vs1 : Array Value} {w' w2 : World} (hB : Below w'.heap.size w' w2) (h : PL g1 g2 vs1 w') : PL g1 g2 vs1 w2 := by
  obtain ⟨hn, h1, x, y, z, h2⟩ := h
  exact ⟨hn, blk_below h1 hB, x, y, z, blk_below h2 hB⟩
theorem PL.drew {g1 g2 : Nat} {vs1 : Array Value} {w' : World} (h : PL g1 g2 vs1 w') : PL g1 g2 vs1 w'.drew := h.to (below_drew (Below.refl _ _))
theorem PL.set {g1 g2 : Nat} {vs1 : Array Value} {w' : World} (h : PL g1 g2 vs1 w') (a b c : Value) : PL g1 g2 vs1 (((w'.setCell ⟨g2, 0, none⟩ a).setCell ⟨g2, 1, none⟩ b).setCell ⟨g2, 2, none⟩ c) := by
  obtain ⟨hn, h1, x, y, z, h2⟩ := h
  refine ⟨hn, blk_far (blk_far (blk_far h1 (p := ⟨g2, 0, none⟩) hn _) (p := ⟨g2, 1, none⟩) hn _) (p := ⟨g2, 2, none⟩) hn _, a, b, c, ?_⟩
  exact blk_set (blk_set (blk_set h2 0 a) 1 b) 2 c
theorem PL.box {g1 g2 : Nat} {vs1 : Array Value} {w' : World} (h : PL g1 g2 vs1 w') (a b c : Value) : (((w'.setCell ⟨g2, 0, none⟩ a).setCell ⟨g2, 1, none⟩ b).setCell ⟨g2, 2, none⟩ c).heap[g2]? = some (.cells #[a, b, c] 34 (0, 0)) := by
  obtain ⟨hn, h1, x, y, z, h2⟩ := h
  exact blk_set (blk_set (blk_set h2 0 a) 1 b) 2 c
theorem PL.conj {g1 g2 : Nat} {a b c d : Value} {w' : World} (h : PL g1 g2 #[a, b, c, d] w') :
    w'.cell? ⟨g1, 0, none⟩ = some a ∧ w'.cell? ⟨g1, 1, none⟩ = some b ∧ w'.cell? ⟨g1, 2, none⟩ = some c ∧ w'.cell? ⟨g1, 3, none⟩ = some d ∧ w'.cell? ⟨g2, 0, none⟩ = some (qc w' g2 0) ∧ w'.cell? ⟨g2, 1, none⟩ = some (qc w' g2 1) ∧ w'.cell? ⟨g2, 2, none⟩ = some (qc w' g2 2) ∧ w'.frozen? ⟨g2, 0, none⟩ = false ∧ w'.frozen? ⟨g2, 1, none⟩ = false ∧ w'.frozen? ⟨g2, 2, none⟩ = false := by
  obtain ⟨hn, h1, x, y, z, h2⟩ := h
  exact ⟨blk_cell h1 0, blk_cell h1 1, blk_cell h1 2, blk_cell h1 3, qc_cell (blk_cell h2 0), qc_cell (blk_cell h2 1), qc_cell (blk_cell h2 2), blk_frozen h2 0, blk_frozen h2 1, blk_frozen h2 2⟩
/-- from a fact on the region's first world to the world at hand: one callee behind the other. -/
theorem PS.to1 {w0 : World} {g1 g2 : Nat} {vs1 vs2 : Array Value} {A : Option Addr} {l : List S47} {B : Option Addr} {li : List S47} {w' w2 : World} (h : PS w0 g1 g2 vs1 vs2 A l B li w') (hB : Below w'.drew.heap.size w'.drew w2) : PS w0 g1 g2 vs1 vs2 A l B li w2 := h.drew.to hB
theorem set3_C {W W2 : World} {base g n c : Nat} {A : Option Addr} {xs : List Int} (h : kI.R 3 W base (fun _ => True) (.slice A n c) xs) (hB : Below W.heap.size W W2) (hg : g < base) (x y z : Value) : kI.C (((W2.setCell ⟨g, 0, none⟩ x).setCell ⟨g, 1, none⟩ y).setCell ⟨g, 2, none⟩ z) A xs.length xs ∧ xs.length ≤ c := by
  have hR := Kd.R_below (Kd.R_bound h) hB
  have hne : ∀ (j : Nat) (k : Nat), (True ∧ base ≤ k ∧ k < W.heap.size ∧ ∃ q, q ∈ 3 :: kI.E ∧ ∃ cells, W.heap[k]? = some (.cells cells q (0, 0))) → k ≠ (Addr.mk g j none).block := fun _ k hk e => by
    have e2 : k = g := e
    have h2 : base ≤ k := hk.2.1
    omega
  have h3 := Kd.R_reads' (Kd.R_far (Kd.R_far (Kd.R_far hR (p := ⟨g, 0, none⟩) (hne 0) x) (p := ⟨g, 1, none⟩) (hne 1) y) (p := ⟨g, 2, none⟩) (hne 2) z)
  exact ⟨h3.2.2, h3.1 ▸ h3.2.1⟩
theorem set3_below {w W : World} {g : Nat} (h : Below w.heap.size w W) (hg : w.heap.size ≤ g) (x y z : Value) : Below w.heap.size w (((W.setCell ⟨g, 0, none⟩ x).setCell ⟨g, 1, none⟩ y).setCell ⟨g, 2, none⟩ z) := below_set (below_set (below_set h hg) hg) hg
set_option maxHeartbeats 8000000 in
set_option maxRecDepth 100000 in
theorem pick_zero (n s : Int) (vl : Value) (A : Option Addr) (c : Nat) (l : List S47) (w : World) (hq : ∀ x ∈ l, okT x) (hF : Kd.F k47 w (fun _ => True) A l.length l) (hc : l.length ≤ c) (hl : l.length ≤ 200) (rest : List Int) (h : fullTo l 3 = 0 :: rest) (li : List S47) (hli : l.filter (lvl 0) = li) (lo hi : ByteArray) (hlo : arL li = (lo, hi)) (h1i : 1 ≤ li.length) :
    Calls Try.prog 10 #[.agg #[.int .i64 n, .int .i64 s, vl, .slice A l.length c]] w fun e w' => ∃ A1 c1 A2 c2, e = .returned (.tuple #[.agg #[.int .i64 0, .slice A1 (sortI (li.map idT)).length c1, .slice A2 (sortI ((l.filter (ovP 1 lo hi)).map idT)).length c2], .bool true]) ∧ kI.C w' A1 (sortI (li.map idT)).length (sortI (li.map idT)) ∧ (sortI (li.map idT)).length ≤ c1 ∧ Below w.heap.size w w' := by
  have hm1 : li.length ≤ 200 := by rw [← hli]; exact Nat.le_trans (List.length_filter_le _ _) hl
  have HBA := Aside0.mk (below_alloc (below_alloc (Below.refl w.heap.size w) (.cells #[.int .i64 n, .int .i64 s, vl, .slice A l.length c] 25)) (.cells #[.int .i64 0, .slice none 0 0, .slice none 0 0] 34))
  have HG1 := Aside0.mk (blk_alloc (blk_new w (.cells #[.int .i64 n, .int .i64 s, vl, .slice A l.length c] 25)) (.cells #[.int .i64 0, .slice none 0 0, .slice none 0 0] 34))
  have HG2 := Aside0.mk (show ((w.alloc (.cells #[.int .i64 n, .int .i64 s, vl, .slice A l.length c] 25)).alloc (.cells #[.int .i64 0, .slice none 0 0, .slice none 0 0] 34)).heap[w.heap.size + 1]? = some (.cells #[.int .i64 0, .slice none 0 0, .slice none 0 0] 34 (0, 0)) from by have h := blk_new (w.alloc (.cells #[.int .i64 n, .int .i64 s, vl, .slice A l.length c] 25)) (.cells #[.int .i64 0, .slice none 0 0, .slice none 0 0] 34); rwa [show (w.alloc (.cells #[.int .i64 n, .int .i64 s, vl, .slice A l.length c] 25)).heap.size = w.heap.size + 1 from by simp] at h)
  have HF := Aside0.mk (Kd.F_alloc (Kd.F_alloc hF (.cells #[.int .i64 n, .int .i64 s, vl, .slice A l.length c] 25)) (.cells #[.int .i64 0, .slice none 0 0, .slice none 0 0] 34))
  have HQ := Aside0.mk hq
  have HE := Aside0.mk h
  have HLI := Aside0.mk hli
  have HAR := Aside0.mk hlo
  clear hq hF h hli hlo
  go_enter Try.func10, Try.ntmps10
  go_wp2_with (first | (go_at_call 18; with_reducible refine (full_2 n s vl A c l _ HQ.out HF.out hc hl 0 rest HE.out).mono ?_; rintro e w2 ⟨ad, m, c2, rfl, hm0, hm3, hc1, hB2⟩; have HB2 := Aside0.mk (below_step HBA.out hB2); have HF2 := Aside0.mk (Kd.F_below HF.out hB2); have HG12 := Aside0.mk (blk_below HG1.out hB2); have HG22 := Aside0.mk (blk_below HG2.out hB2); have e0 := blk_cell HG12.out 0; have e1 := blk_cell HG12.out 1; have e2 := blk_cell HG12.out 2; have e3 := blk_cell HG12.out 3; have hmi : (0 : Int) < (m : Int) := (by omega); have hmz : (m == 0) = false := (by rw [beq_eq_false_iff_ne]; omega); have hmz2 : ((m : Int) == 0) = false := (by rw [beq_eq_false_iff_ne]; omega); clear hB2) | (go_at_call 29; with_reducible refine (level_c 0 n s vl A c l _ HQ.out HF2.out hc hl).mono ?_; (rw [HLI.out]); rintro e w3 ⟨B3, c3, rfl, hN3, hB3⟩; have HP3 := Aside0.mk (PS.mk (below_step HB2.out hB3) (Kd.F_below HF2.out hB3) (Kd.N_F hN3) (blk_below HG12.out hB3) (blk_below HG22.out hB3)); have hc3 := Aside0.mk (Kd.N_reads' hN3).2.1; clear hB3 hN3))
  have hm2 : li.length ≤ 1000 := by omega
  have hids := fun (W : World) (h : Kd.F k47 W (fun _ => True) B3 li.length li) => ids_c B3 c3 li.length li W rfl h hc3.out hm2
  have har : ∀ (W : World) (h : Kd.F k47 W (fun _ => True) B3 li.length li), Calls Try.prog 35 #[.slice B3 li.length c3] W fun e w' => e = .returned (.agg #[.string lo, .string hi]) ∧ Below W.heap.size W w' := fun W h => by
    have h2 := around_c B3 c3 li W h hc3.out hm1 h1i
    rw [HAR.out] at h2
    exact h2
  have hov := fun (W : World) (h : Kd.F k47 W (fun _ => True) A l.length l) => ovl_c 1 n s lo hi vl A c l W HQ.out h hc hl
  have HNE := Aside0.mk (show w.heap.size ≠ w.heap.size + 1 from Nat.ne_of_lt (Nat.lt_succ_self _))
  clear hc1 e0 e1 e2 e3 hmi hmz hmz2 HB2 HF2 HG12 HG22 HG1 HG2 HBA HF HE
  go_region_held3 (fun w' => w'.cell? ⟨w.heap.size, 0, none⟩ = some (.int .i64 n) ∧ w'.cell? ⟨w.heap.size, 1, none⟩ = some (.int .i64 s) ∧ w'.cell? ⟨w.heap.size, 2, none⟩ = some vl ∧ w'.cell? ⟨w.heap.size, 3, none⟩ = some (.slice A l.length c) ∧ w'.cell? ⟨w.heap.size + 1, 0, none⟩ = some (qc w' (w.heap.size + 1) 0) ∧ w'.cell? ⟨w.heap.size + 1, 1, none⟩ = some (qc w' (w.heap.size + 1) 1) ∧ w'.cell? ⟨w.heap.size + 1, 2, none⟩ = some (qc w' (w.heap.size + 1) 2) ∧ w'.frozen? ⟨w.heap.size + 1, 0, none⟩ = false ∧ w'.frozen? ⟨w.heap.size + 1, 1, none⟩ = false ∧ w'.frozen? ⟨w.heap.size + 1, 2, none⟩ = false) (first | exact PL.conj (PS.pl (PS.drew HP3.out) HNE.out) | exact PL.conj (PS.pl (PS.to1 HP3.out (by assumption)) HNE.out) | exact PL.conj (PS.pl (PS.to (PS.to1 HP3.out (by assumption)) (by assumption)) HNE.out) | exact PL.conj (PS.pl (PS.to (PS.to (PS.to1 HP3.out (by assumption)) (by assumption)) (by assumption)) HNE.out) | exact PL.conj (PL.set (PS.pl (PS.to (PS.to (PS.to1 HP3.out (by assumption)) (by assumption)) (by assumption)) HNE.out) _ _ _))
    (first | (go_at_call 35; refine (har _ ?_).mono ?_; (first | exact PS.fi (PS.drew HP3.out) | exact PS.fi (PS.to1 HP3.out (by assumption)) | exact PS.fi (PS.to (PS.to1 HP3.out (by assumption)) (by assumption))); rintro e w5 ⟨rfl, hB5⟩) | (go_at_call 33; refine (hids _ ?_).mono ?_; (first | exact PS.fi (PS.drew HP3.out) | exact PS.fi (PS.to1 HP3.out (by assumption)) | exact PS.fi (PS.to (PS.to1 HP3.out (by assumption)) (by assumption))); rintro e w4 ⟨A4, c4, rfl, hR4, hB4⟩) | (go_at_call 34; refine (hov _ ?_).mono ?_; (first | exact PS.fl (PS.to1 HP3.out (by assumption)) | exact PS.fl (PS.to (PS.to1 HP3.out (by assumption)) (by assumption))); rintro e w6 ⟨A6, c6, rfl, hR6, hB6⟩))
  have HC4 := Aside0.mk (set3_C hR4 (below_step hB5 hB6) (Nat.lt_of_lt_of_le (blk_lt HP3.out.b2) (Nat.le_of_eq rfl)) (.int .i64 0) (.slice A4 (sortI (List.map idT li)).length c4) (.slice A6 (sortI (List.map idT (List.filter (ovP 1 lo hi) l))).length c6))
  have HPZ := Aside0.mk (PS.to (PS.to (PS.to1 HP3.out hB4) hB5) hB6)
  have HPB := Aside0.mk (PL.box (PS.pl HPZ.out HNE.out) (.int .i64 0) (.slice A4 (sortI (List.map idT li)).length c4) (.slice A6 (sortI (List.map idT (List.filter (ovP 1 lo hi) l))).length c6))
  have HBZ := Aside0.mk (set3_below HPZ.out.below (Nat.le_succ _) (.int .i64 0) (.slice A4 (sortI (List.map idT li)).length c4) (.slice A6 (sortI (List.map idT (List.filter (ovP 1 lo hi) l))).length c6))
  clear hids har hov hR4 hB4 hB5 hB6 hR6
  go_wp2
  exact end10 HPB.out rfl rfl rfl ⟨A4, c4, A6, c6, rfl, HC4.out.1, HC4.out.2, HBZ.out⟩
end Go.Proofs.Ytgnmdhjnpbnacaa.PB
end
section
set_option linter.unusedVariables false
set_option linter.unusedSimpArgs false
namespace Go.Proofs.Ytgnmdhjnpbnacaa.PB
open Go.RowKit Go.Proofs.YtgnmdhjnpbnacaaW.PrintWords Go.Proofs.YtgnmdhjnpbnacaaW.PrintLast Go.Proofs.YtgnmdhjnpbnacaaW.PrintMore
theorem limR_eq (n : Int) : lienref17_Limit.f n = some (limN n) := by
  unfold lienref17_Limit.f limN
  split
  · rfl
  · split
    · rfl
    · split <;> rfl
theorem Ev_same (l : List Int) (hl : l.length ≤ 9223372036854775806) : ∀ m i, m + i = l.length → Ev (fun k => lienref17_SameInts.l0 k l l (i : Int)) true := by
  intro m
  induction m with
  | zero =>
    intro i hm
    refine Ev.step (f := fun _ => some true) (fun k => ?_) (Ev.now _)
    rw [lienref17_SameInts.l0, if_neg (by omega)]
  | succ m ih =>
    intro i hm
    refine Ev.step (f := fun k => lienref17_SameInts.l0 k l l ((i + 1 : Nat) : Int)) (fun k => ?_) (ih (i + 1) (by omega))
    rw [lienref17_SameInts.l0, if_pos (by omega), if_pos (by omega), if_pos (by omega), if_pos rfl, w_next _ (by omega)]
theorem same_ev (l : List Int) (hl : l.length ≤ 9223372036854775806) : Ev (fun k => lienref17_SameInts.f k l l) true :=
  Ev.congr (fun k => by rw [lienref17_SameInts.f, if_pos rfl]; rfl) (Ev_same l hl l.length 0 (by omega))
theorem same_c (A : Option Addr) (c : Nat) (A2 : Option Addr) (c2 : Nat) (l : List Int) (w : World) (hl : l.length ≤ 1000000) (hC : kI.C w A l.length l) (hc : l.length ≤ c) (hC2 : kI.C w A2 l.length l) (hc2 : l.length ≤ c2) :
    Calls Try.prog 17 #[.slice A l.length c, .slice A2 l.length c2] w fun e w' => e = .returned (.bool true) ∧ Below w.heap.size w w' := by
  obtain ⟨k, hk⟩ := (same_ev l (by omega)).rounds
  exact (lienref17_SameInts.calls k A c l A2 c2 l true w hC hc hC2 hc2 hk).mono fun e w' ⟨h, d⟩ => ⟨h, d.below⟩
theorem cnt_step (l : List S47) (n : Int) (i : Nat) (hi : i < l.length) : (((l.take (i + 1)).filter (lvl n)).length : Int) = ((l.take i).filter (lvl n)).length + if (l.getD i z47).f2 = n then 1 else 0 := by
  rw [filter_take _ l i hi, List.length_append]
  by_cases h : (l.getD i z47).f2 = n
  · rw [lvl_yes h, if_pos h]; simp
  · rw [lvl_no h, if_neg h]; simp
theorem Ev_count (l : List S47) (hl : l.length ≤ 1000) (n a b : Int) (lg : List S57) : ∀ m i, m + i = l.length → Ev (fun k => lienref17_Count.l0 k n (((l.take i).filter (lvl n)).length : Int) (i : Int) a b lg l) (cntL l n) := by
  intro m
  induction m with
  | zero =>
    intro i hm
    refine Ev.step (f := fun _ => some (cntL l n)) (fun k => ?_) (Ev.now _)
    rw [lienref17_Count.l0, if_neg (by omega), cntL, List.take_of_length_le (by omega)]
  | succ m ih =>
    intro i hm
    have hs := cnt_step l n i (by omega)
    have hle : ((l.take i).filter (lvl n)).length ≤ l.length := Nat.le_trans (List.length_filter_le _ _) (by rw [List.length_take]; omega)
    refine Ev.step (f := fun k => lienref17_Count.l0 k n (((l.take (i + 1)).filter (lvl n)).length : Int) ((i + 1 : Nat) : Int) a b lg l) (fun k => ?_) (ih (i + 1) (by omega))
    rw [lienref17_Count.l0, if_pos (by omega), if_pos (by omega), rdT_D, w_next _ (by omega), hs]
    by_cases h : (l.getD i z47).f2 = n
    · rw [if_pos h, if_pos h, w_next _ (by omega)]
      rfl
    · rw [if_neg h, if_neg h, Int.add_zero]
      rw [w_next i (by omega)]
theorem count_ev (l : List S47) (hl : l.length ≤ 1000) (n a b : Int) (lg : List S57) : Ev (fun k => lienref17_Count.f k a b lg l n) (cntL l n) := Ev_count l hl n a b lg l.length 0 (by omega)
theorem Ev_full (l : List S47) (hl : l.length ≤ 1000) (a b : Int) (lg : List S57) : ∀ m i, m + i = 3 → Ev (fun k => lienref17_Full.l0 k (fullTo l i) (i : Int) a b lg l) (fullTo l 3) := by
  intro m
  induction m with
  | zero =>
    intro i hm
    have : i = 3 := by omega
    subst this
    refine Ev.step (f := fun _ => some (fullTo l 3)) (fun k => ?_) (Ev.now _)
    rw [lienref17_Full.l0, if_neg (by omega)]
  | succ m ih =>
    intro i hm
    have hln := fullTo_len l i
    refine Ev.step (f := fun k => (lienref17_Count.f k a b lg l (i : Int)).bind fun t => if t > limN (i : Int) then lienref17_Full.l0 k (fullTo l i ++ [(i : Int)]) ((i + 1 : Nat) : Int) a b lg l else lienref17_Full.l0 k (fullTo l i) ((i + 1 : Nat) : Int) a b lg l) (fun k => ?_) (Ev.bind (count_ev l hl i a b lg) ?_)
    · rw [lienref17_Full.l0, if_pos (by omega), limR_eq, w_next _ (by omega)]
      congr 1
      funext t
      simp only [Option.bind_some]
      by_cases ht : t > limN (i : Int)
      · rw [if_pos ht, if_pos ht, if_pos (by omega)]
      · rw [if_neg ht, if_neg ht]
    · by_cases h : limN (i : Int) < cntL l (i : Int)
      · have e : fullTo l (i + 1) = fullTo l i ++ [(i : Int)] := by rw [fullTo]; unfold fullB; rw [decide_eq_true h]; rfl
        have h2 := ih (i + 1) (by omega)
        rw [e] at h2
        exact Ev.congr (fun k => if_pos h) h2
      · have e : fullTo l (i + 1) = fullTo l i := by rw [fullTo]; unfold fullB; rw [decide_eq_false h]; simp
        have h2 := ih (i + 1) (by omega)
        rw [e] at h2
        exact Ev.congr (fun k => if_neg h) h2
theorem fullR_c (n s : Int) (Al : Option Addr) (cl : Nat) (lg : List S57) (A : Option Addr) (c : Nat) (l : List S47) (w : World) (hlg : Kd.C k57 w Al lg.length lg) (hcl : lg.length ≤ cl) (hC : Kd.C k47 w A l.length l) (hc : l.length ≤ c) (hl : l.length ≤ 200) :
    Calls Try.prog 11 #[.agg #[.int .i64 n, .int .i64 s, .slice Al lg.length cl, .slice A l.length c]] w fun e w' => ∃ A' c', e = .returned (.slice A' (fullTo l 3).length c') ∧ kI.R 3 w' w.heap.size (fun _ => True) (.slice A' (fullTo l 3).length c') (fullTo l 3) ∧ Below w.heap.size w w' := by
  obtain ⟨k, hk⟩ := (show Ev (fun k => lienref17_Full.f k n s lg l) (fullTo l 3) from Ev_full l (by omega) n s lg 3 0 (by omega)).rounds
  refine (lienref17_Full.calls k n s Al cl lg A c l _ w hlg hcl hC hc hk).mono ?_
  rintro e w' ⟨v, rfl, hR, hB⟩
  obtain ⟨A', c', rfl⟩ := Kd.R_slice hR
  exact ⟨A', c', rfl, hR, hB⟩
end Go.Proofs.Ytgnmdhjnpbnacaa.PB
end
section
set_option linter.unusedVariables false
set_option linter.unusedSimpArgs false
namespace Go.Proofs.Ytgnmdhjnpbnacaa.PB
open Go.RowKit Go.Proofs.YtgnmdhjnpbnacaaW.PrintWords Go.Proofs.YtgnmdhjnpbnacaaW.PrintLast Go.Proofs.YtgnmdhjnpbnacaaW.PrintMore
theorem take_has (l : List Int) (i : Nat) (h : i < l.length) (x : Int) : (l.take (i + 1)).contains x = ((l.take i).contains x || x == l.getD i 0) := by
  have hD : l.getD i 0 = l[i] := by rw [List.getD_eq_getElem?_getD, List.getElem?_eq_getElem h]; rfl
  rw [List.take_succ_eq_append_getElem h, hD, Bool.eq_iff_iff]
  simp only [List.contains_iff_mem, List.mem_append, List.mem_singleton, Bool.or_eq_true, beq_iff_eq]
set_option maxHeartbeats 4000000 in
theorem index_c (A : Option Addr) (c n : Nat) (l : List Int) (x : Int) (w : World) (hn : n = l.length) (hC : kI.C w A l.length l) (hc : l.length ≤ c) (hl : l.length ≤ 1000000) :
    Calls Try.prog 49 #[.slice A n c, .int .i64 x] w fun e w' => ∃ r : Int, e = .returned (.int .i64 r) ∧ decide (0 ≤ r) = l.contains x ∧ Below w.heap.size w w' := by
  subst hn
  have HC := Aside0.mk hC
  have HL := Aside0.mk hl
  clear hC hl
  go_enter Try.func49, Try.ntmps49
  go_wp2
  go_loopg [8] (l.length + 1) (fun kq v8 wr => ∃ i : Nat, v8 = .int .i64 i ∧ Aside0 (i ≤ l.length) ∧ Aside0 (l.length - i < kq) ∧ Aside0 ((l.take i).contains x = false) ∧ Aside0 (Below w.heap.size w wr))
  case atStart => exact ⟨0, rfl, ⟨Nat.zero_le _⟩, ⟨by omega⟩, ⟨by simp⟩, ⟨by repeat (first | exact Below.refl _ _ | apply below_drew)⟩⟩
  case round =>
    obtain ⟨i, rfl, HI, HK, HT, HB⟩ := hrel
    have hil := HI.out
    by_cases hlt : i < l.length
    · have ht : decide (i < l.length) = true := decide_eq_true hlt
      have ht2 : decide ((i : Int) < (l.length : Int)) = true := decide_eq_true (by omega)
      have HCr := Aside0.mk (Kd.C_below HC.out HB.out)
      obtain ⟨y, hy⟩ : ∃ y, y = l.getD i 0 := ⟨_, rfl⟩
      obtain ⟨ad, cc, rfl, _, hK, hcc⟩ := Kd.C_get HCr.out 0 (i : Int) (by omega) (by omega)
      have hK2 : cc = [.int .i64 (l.getD i 0)] := hK
      rw [← hy] at hK2
      subst hK2
      have h0 : wr.cell? (ad.add i) = some (.int .i64 y) := by have h := hcc 0 _ rfl; have hz : (Kd.int IntKind.i64).sz = 1 := rfl; simpa [Addr.add, kI, hz] using h
      have hi0 : (0 : Int) ≤ (i : Int) := by omega
      have hi1 : (i : Int) < (l.length : Int) := by omega
      have hi2 : (i : Int) ≤ 1000000 := by have := HL.out; omega
      have HN := Aside0.mk (take_has l i hlt x)
      rw [← hy] at HN
      have HY := Aside0.mk hy
      clear hy hcc hK
      by_cases he : x = y
      · have t1 : decide (x = y) = true := decide_eq_true he
        have t2 : (x == y) = true := by rw [he]; simp
        have HE := Aside0.mk (show l.contains x = true from by
          have := HN.out
          rw [t2, Bool.or_true] at this
          have hm : x ∈ l.take (i + 1) := by simpa using this
          simpa using List.mem_of_mem_take hm)
        clear he
        go_wp2
        go_ret
        exact ⟨i, rfl, by rw [HE.out]; exact decide_eq_true (by omega), HB.out⟩
      · have t1 : decide (x = y) = false := decide_eq_false he
        have t2 : (x == y) = false := by rw [beq_eq_false_iff_ne]; exact he
        have HE := Aside0.mk t2
        clear he
        go_wp2
        go_roundg (l.length - i)
        case measure => exact HK.out
        case rel => exact ⟨i + 1, by go_num, ⟨by omega⟩, ⟨by omega⟩, ⟨by rw [HN.out, HT.out, HE.out]; rfl⟩, ⟨by first | exact HB.out | exact below_drew HB.out⟩⟩
    · have ht : decide (i < l.length) = false := decide_eq_false hlt
      have ht2 : decide ((i : Int) < (l.length : Int)) = false := decide_eq_false (by omega)
      obtain rfl : i = l.length := by omega
      go_wp2
      go_ret
      exact ⟨-1, rfl, by have h := HT.out; rw [List.take_of_length_le (Nat.le_refl _)] at h; rw [h]; rfl, HB.out⟩
theorem contains_c (A : Option Addr) (c n : Nat) (l : List Int) (x : Int) (w : World) (hn : n = l.length) (hC : kI.C w A l.length l) (hc : l.length ≤ c) (hl : l.length ≤ 1000000) :
    Calls Try.prog 40 #[.slice A n c, .int .i64 x] w fun e w' => e = .returned (.bool (l.contains x)) ∧ Below w.heap.size w w' := by
  subst hn
  go_enter Try.func40, Try.ntmps40
  go_wp2_with (first | (go_at_call 49; with_reducible refine (index_c A c l.length l x _ rfl hC hc hl).mono ?_; rintro e w2 ⟨r, rfl, hr, hB2⟩; have hr2 : decide (0 ≤ r) = l.contains x := hr; have HB2 := Aside0.mk hB2; clear hB2))
  go_ret
  exact ⟨by show Ending.returned (.bool (decide (x ∈ l))) = .returned (.bool (l.contains x)); simp, HB2.out⟩
set_option maxHeartbeats 4000000 in
set_option maxRecDepth 100000 in
theorem tells39 (g : Nat) (lv : Int) (A1 A2 : Option Addr) (c1 c2 : Nat) (I O : List Int) (w : World) (hb : w.heap[g]? = some (.cells #[.int .i64 lv, .slice A1 I.length c1, .slice A2 O.length c2] 34 (0, 0))) (hI : kI.C w A1 I.length I) (hc1 : I.length ≤ c1) (hI2 : I.length ≤ 1000000) (hO : kI.C w A2 O.length O) (hc2 : O.length ≤ c2) (hO2 : O.length ≤ 1000000) :
    Tells 39 #[.pointer (some ⟨g, 0, none⟩)] w (fun x => I.contains x.f0.f0 || O.contains x.f0.f0) := by
  intro x A3 c3 W hx hB
  have HGB := Aside0.mk (blk_below hb hB)
  have HI := Aside0.mk (Kd.C_below hI hB)
  have HO := Aside0.mk (Kd.C_below hO hB)
  have hlt := blk_lt HGB.out
  have d0 : ∀ o, (W.alloc o).cell? ⟨g, 0, none⟩ = some (.int .i64 lv) := fun o => (blk_cell (blk_alloc HGB.out o) 0).trans rfl
  have d1 : ∀ o, (W.alloc o).cell? ⟨g, 1, none⟩ = some (.slice A1 I.length c1) := fun o => (blk_cell (blk_alloc HGB.out o) 1).trans rfl
  have d2 : ∀ o, (W.alloc o).cell? ⟨g, 2, none⟩ = some (.slice A2 O.length c2) := fun o => (blk_cell (blk_alloc HGB.out o) 2).trans rfl
  obtain ⟨o, ho⟩ : ∃ o, o = Obj.cells #[.int .i64 x.f0.f0, .int .i64 x.f0.f1, .slice A3 x.f0.f2.length c3, .int .i64 x.f1, .int .i64 x.f2, .int .i64 x.f3, .string x.f4, .string x.f5, .int .i64 x.f6] 47 (0, 0) := ⟨_, rfl⟩
  have HBA := Aside0.mk (below_alloc (Below.refl W.heap.size W) o)
  have HGA := Aside0.mk (blk_alloc HGB.out o)
  have HIA := Aside0.mk (Kd.C_below HI.out HBA.out)
  have HOA := Aside0.mk (Kd.C_below HO.out HBA.out)
  have HX := Aside0.mk (show (W.alloc o).heap[W.heap.size]? = some o from blk_new W o)
  rw [ho] at HBA HGA HIA HOA HX
  clear hb hB hI hO ho
  show Calls Try.prog 39 #[.agg #[.int .i64 x.f0.f0, .int .i64 x.f0.f1, .slice A3 x.f0.f2.length c3, .int .i64 x.f1, .int .i64 x.f2, .int .i64 x.f3, .string x.f4, .string x.f5, .int .i64 x.f6], .pointer (some ⟨g, 0, none⟩)] W _
  by_cases h1 : I.contains x.f0.f0 = true
  · have H1 := Aside0.mk h1
    clear h1
    go_enter Try.func39, Try.ntmps39
    go_wp2_with (first | (go_at_call 40; with_reducible refine (contains_c A1 c1 I.length I x.f0.f0 _ rfl HIA.out hc1 hI2).mono ?_; (rw [H1.out]); rintro e w2 ⟨rfl, hB2⟩; have HB2 := Aside0.mk (below_step HBA.out hB2); clear hB2))
    go_ret
    exact ⟨by rw [H1.out]; rfl, HB2.out⟩
  · have H1 := Aside0.mk ((Bool.not_eq_true _).mp h1)
    clear h1
    go_enter Try.func39, Try.ntmps39
    go_wp2_with (first | (go_at_call 40; first | (with_reducible refine (contains_c A1 c1 I.length I x.f0.f0 _ rfl HIA.out hc1 hI2).mono ?_; (rw [H1.out]); rintro e w2 ⟨rfl, hB2⟩; have HB2 := Aside0.mk (below_step HBA.out hB2); have HO2 := Aside0.mk (Kd.C_below HOA.out hB2); have HG2 := Aside0.mk (blk_below HGA.out hB2); have HX2 := Aside0.mk (blk_below HX.out hB2); have e2 := blk_cell HG2.out 2; have x0 := blk_cell HX2.out 0; have e1 := blk_cell HG2.out 1; have e0 := blk_cell HG2.out 0; clear hB2) | (with_reducible refine (contains_c A2 c2 O.length O x.f0.f0 _ rfl HO2.out hc2 hO2).mono ?_; rintro e w3 ⟨rfl, hB3⟩; have HB3 := Aside0.mk (below_step HB2.out hB3); clear hB3)))
    go_ret
    exact ⟨by rw [H1.out]; show Ending.returned (.bool (decide (x.f0.f0 ∈ O))) = .returned (.bool (false || O.contains x.f0.f0)); simp, HB3.out⟩
end Go.Proofs.Ytgnmdhjnpbnacaa.PB
end
section
set_option linter.unusedVariables false
set_option linter.unusedSimpArgs false
namespace Go.Proofs.Ytgnmdhjnpbnacaa.PB
open Go.RowKit Go.Proofs.YtgnmdhjnpbnacaaW.PrintWords Go.Proofs.YtgnmdhjnpbnacaaW.PrintLast Go.Proofs.YtgnmdhjnpbnacaaW.PrintMore
def inJob (I O : List Int) (x : S47) : Bool := I.contains x.f0.f0 || O.contains x.f0.f0
def botL (l : List S47) (lv : Int) (I O : List Int) : Bool :=
  if (l.filter (inJob I O)).length = 0 then true else decide ((l.filter (botP lv (arL (l.filter (inJob I O))).1 (arL (l.filter (inJob I O))).2)).length = 0)
theorem len_beq0 (m : Nat) : ((m : Int) == 0) = decide (m = 0) := by
  by_cases h : m = 0
  · subst h; rfl
  · rw [decide_eq_false h, beq_eq_false_iff_ne]; omega
set_option maxHeartbeats 8000000 in
set_option maxRecDepth 100000 in
theorem bottom_c (n s : Int) (vl : Value) (A : Option Addr) (c : Nat) (l : List S47) (w : World) (hq : ∀ x ∈ l, okT x) (hF : Kd.F k47 w (fun _ => True) A l.length l) (hc : l.length ≤ c) (hl : l.length ≤ 200) (lv : Int) (A1 A2 : Option Addr) (c1 c2 : Nat) (I O : List Int) (hI : kI.C w A1 I.length I) (hc1 : I.length ≤ c1) (hI2 : I.length ≤ 1000000) (hO : kI.C w A2 O.length O) (hc2 : O.length ≤ c2) (hO2 : O.length ≤ 1000000)
    (hlv0 : 0 ≤ lv) (hlv1 : lv ≤ 100) :
    Calls Try.prog 22 #[.agg #[.int .i64 n, .int .i64 s, vl, .slice A l.length c], .agg #[.int .i64 lv, .slice A1 I.length c1, .slice A2 O.length c2]] w fun e w' => e = .returned (.bool (botL l lv I O)) ∧ Below w.heap.size w w' := by
  have hmf : ∀ (fn : Fn) (first cap : Array Value) (w : World), (Instr.makeFunc fn first cap).run Try.prog w = .ok (.func fn first cap) w := fun _ _ _ _ => rfl
  have HBA := Aside0.mk (below_alloc (below_alloc (Below.refl w.heap.size w) (.cells #[.int .i64 n, .int .i64 s, vl, .slice A l.length c] 25)) (.cells #[.int .i64 lv, .slice A1 I.length c1, .slice A2 O.length c2] 34))
  have HF := Aside0.mk (Kd.F_alloc (Kd.F_alloc hF (.cells #[.int .i64 n, .int .i64 s, vl, .slice A l.length c] 25)) (.cells #[.int .i64 lv, .slice A1 I.length c1, .slice A2 O.length c2] 34))
  have HG1 := Aside0.mk (blk_alloc (blk_new w (.cells #[.int .i64 n, .int .i64 s, vl, .slice A l.length c] 25)) (.cells #[.int .i64 lv, .slice A1 I.length c1, .slice A2 O.length c2] 34))
  have HG2 := Aside0.mk (show ((w.alloc (.cells #[.int .i64 n, .int .i64 s, vl, .slice A l.length c] 25)).alloc (.cells #[.int .i64 lv, .slice A1 I.length c1, .slice A2 O.length c2] 34)).heap[w.heap.size + 1]? = some (.cells #[.int .i64 lv, .slice A1 I.length c1, .slice A2 O.length c2] 34 (0, 0)) from by have h := blk_new (w.alloc (.cells #[.int .i64 n, .int .i64 s, vl, .slice A l.length c] 25)) (.cells #[.int .i64 lv, .slice A1 I.length c1, .slice A2 O.length c2] 34); rwa [show (w.alloc (.cells #[.int .i64 n, .int .i64 s, vl, .slice A l.length c] 25)).heap.size = w.heap.size + 1 from by simp] at h)
  have HT := Aside0.mk (show Tells 39 #[.pointer (some ⟨w.heap.size + 1, 0, none⟩)] _ (inJob I O) from tells39 (w.heap.size + 1) lv A1 A2 c1 c2 I O _ HG2.out (Kd.C_below hI HBA.out) hc1 hI2 (Kd.C_below hO HBA.out) hc2 hO2)
  have HQ := Aside0.mk hq
  have hFl := List.length_filter_le (inJob I O) l
  obtain ⟨l1, hl1⟩ : ∃ l1, l.filter (inJob I O) = l1 := ⟨_, rfl⟩
  have HL1 := Aside0.mk hl1
  rw [hl1] at hFl
  have hFl2 : l1.length ≤ 200 := by omega
  have hb0 : botL l lv I O = if l1.length = 0 then true else decide ((l.filter (botP lv (arL l1).1 (arL l1).2)).length = 0) := by unfold botL; rw [hl1]
  clear hq hF hl1
  rw [hb0]
  by_cases h0 : l1.length = 0
  · rw [if_pos h0]
    have t1 : ((l1.length : Int) == 0) = true := by rw [h0]; rfl
    have t2 : (l1.length == 0) = true := by rw [h0]; rfl
    have t3 : l1 = [] := List.length_eq_zero_iff.mp h0
    clear hb0
    go_enter Try.func22, Try.ntmps22
    go_wp2_with (first | (go_at_call 38; with_reducible refine (of39 _ n s vl A c l _ (inJob I O) HT.out HQ.out HF.out hc hl).mono ?_; (rw [HL1.out]); rintro e w2 ⟨A4, c4, rfl, hN2, hB2⟩; have HB2 := Aside0.mk (below_step HBA.out hB2); clear hB2 hN2))
    go_ret
    exact ⟨rfl, HB2.out⟩
  · rw [if_neg h0]
    have t1 : ((l1.length : Int) == 0) = false := by rw [beq_eq_false_iff_ne]; omega
    have t2 : (l1.length == 0) = false := by rw [beq_eq_false_iff_ne]; omega
    have h1p : 1 ≤ l1.length := by omega
    obtain ⟨lo, hi, har⟩ : ∃ lo hi, arL l1 = (lo, hi) := ⟨(arL l1).1, (arL l1).2, rfl⟩
    have har2 : ∀ (A4 : Option Addr) (c4 : Nat) (W : World) (h : Kd.F k47 W (fun _ => True) A4 l1.length l1) (h2 : l1.length ≤ c4), Calls Try.prog 35 #[.slice A4 l1.length c4] W fun e w' => e = .returned (.agg #[.string lo, .string hi]) ∧ Below W.heap.size W w' := fun A4 c4 W h h2 => by
      have h3 := around_c A4 c4 l1 W h h2 hFl2 h1p
      rw [har] at h3
      exact h3
    rw [har]
    have HAR := Aside0.mk har2
    clear hb0 h0 har har2
    go_enter Try.func22, Try.ntmps22
    go_wp2_with (first | (go_at_call 38; with_reducible refine (of39 _ n s vl A c l _ (inJob I O) HT.out HQ.out HF.out hc hl).mono ?_; (rw [HL1.out]); rintro e w2 ⟨A4, c4, rfl, hN2, hB2⟩; have HB2 := Aside0.mk (below_step HBA.out hB2); have HV2 := Aside0.mk (Kd.N_F hN2); have hC2 := (Kd.N_reads' hN2).2.1; have HG12 := Aside0.mk (blk_below HG1.out hB2); have HG22 := Aside0.mk (blk_below HG2.out hB2); have HF2 := Aside0.mk (Kd.F_below HF.out hB2); clear hB2 hN2) | (go_at_call 35; with_reducible refine (HAR.out A4 c4 _ HV2.out hC2).mono ?_; rintro e w5 ⟨rfl, hB5⟩; have HB5 := Aside0.mk (below_alloc (below_step HB2.out hB5) (.cells #[.string lo, .string hi] 72)); have HG15 := Aside0.mk (blk_alloc (blk_below HG12.out hB5) (.cells #[.string lo, .string hi] 72)); have HG25 := Aside0.mk (blk_alloc (blk_below HG22.out hB5) (.cells #[.string lo, .string hi] 72)); have HF5 := Aside0.mk (Kd.F_alloc (Kd.F_below HF2.out hB5) (.cells #[.string lo, .string hi] 72)); have HX5 := Aside0.mk (blk_new w5 (.cells #[.string lo, .string hi] 72)); have HT5 := Aside0.mk (tells41 lv (.slice A1 I.length c1) (.slice A2 O.length c2) lo hi (w.heap.size + 1) w5.heap.size _ hlv0 hlv1 HG25.out HX5.out); have e0 := blk_cell HG15.out 0; have e1 := blk_cell HG15.out 1; have e2 := blk_cell HG15.out 2; have e3 := blk_cell HG15.out 3; clear hB5) | (go_at_call 38; with_reducible refine (of41 _ _ n s vl A c l _ (botP lv lo hi) HT5.out HQ.out HF5.out hc hl).mono ?_; rintro e w6 ⟨A6, c6, rfl, hN6, hB6⟩; have HB6 := Aside0.mk (below_step HB5.out hB6); clear hB6 hN6))
    go_ret
    exact ⟨by show Ending.returned (.bool (((l.filter (botP lv lo hi)).length : Int) == 0)) = .returned (.bool (decide ((l.filter (botP lv lo hi)).length = 0))); rw [len_beq0], HB6.out⟩
end Go.Proofs.Ytgnmdhjnpbnacaa.PB
end
section
set_option linter.unusedVariables false
set_option linter.unusedSimpArgs false
namespace Go.Proofs.Ytgnmdhjnpbnacaa.PB
open Go.RowKit Go.Proofs.YtgnmdhjnpbnacaaW.PrintWords Go.Proofs.YtgnmdhjnpbnacaaW.PrintLast Go.Proofs.YtgnmdhjnpbnacaaW.PrintMore
set_option maxHeartbeats 8000000 in
set_option maxRecDepth 100000 in
theorem small_c (a0 : Int) (a1 a2 : ByteArray) (w : World) : Calls Try.prog 21 #[.int .i64 a0, .string a1, .string a2] w fun e w' => e = .returned (.agg #[.int .i64 a0, .int .i64 0, .slice none 0 0, .int .i64 0, .int .i64 0, .int .i64 2, .string a1, .string a2, .int .i64 0]) ∧ Below w.heap.size w w' := by
  have hu47 := Try.underlying47
  have hu45 := Try.underlying45
  have HB := Aside0.mk (Below.refl w.heap.size w)
  go_enter Try.func21, Try.ntmps21
  go_wp2_with (first | ((with_reducible refine gate_dst (N := 6) rfl ?_); refine box_event ?hg (N := 6) ?hd (cs := #[.int .i64 0, .int .i64 0, .slice none 0 0, .int .i64 0, .int .i64 0, .int .i64 0, .string (⟨#[]⟩ : ByteArray), .string (⟨#[]⟩ : ByteArray), .int .i64 0]) (t := 47) ?hr ?_; (case hd => rfl); (case hg => rfl); (case hr => first | (go_simp; done) | (go_simp; rfl)); intro gb250 hg w4 hbox hb; have n0_ := Aside0.mk (below_step (by repeat (first | (with_reducible first | exact HB.out | apply below_alloc | apply pw_below_drewN | apply below_drew1) | exact HB.out)) hb); have n1_ := Aside0.mk (hbox); have n2_ := Aside0.mk ((by rw [hg]; exact (below_size (by repeat (first | (with_reducible first | exact HB.out | apply below_alloc | apply pw_below_drewN | apply below_drew1) | exact HB.out))) : w.heap.size ≤ gb250)); have n3_ := Aside0.mk ((by rw [hg]; exact (below_size (by repeat (first | (with_reducible first | exact HB.out | apply below_alloc | apply pw_below_drewN | apply below_drew1) | exact HB.out))) : w.heap.size ≤ gb250)); clear HB; have HB := n0_; have BK250 := n1_; have GW250 := n2_; have GE250 := n3_; clear n0_ n1_ n2_ n3_; clear hb hbox hg; have hcz5_0 : w4.cell? ⟨gb250, 0, none⟩ = some (.int .i64 0) := (blk_cell BK250.out 0).trans rfl; have hcz5_1 : w4.cell? ⟨gb250, 1, none⟩ = some (.int .i64 0) := (blk_cell BK250.out 1).trans rfl; have hcz5_2 : w4.cell? ⟨gb250, 2, none⟩ = some (.slice none 0 0) := (blk_cell BK250.out 2).trans rfl; have hcz5_3 : w4.cell? ⟨gb250, 3, none⟩ = some (.int .i64 0) := (blk_cell BK250.out 3).trans rfl; have hcz5_4 : w4.cell? ⟨gb250, 4, none⟩ = some (.int .i64 0) := (blk_cell BK250.out 4).trans rfl; have hcz5_5 : w4.cell? ⟨gb250, 5, none⟩ = some (.int .i64 0) := (blk_cell BK250.out 5).trans rfl; have hcz5_6 : w4.cell? ⟨gb250, 6, none⟩ = some (.string (⟨#[]⟩ : ByteArray)) := (blk_cell BK250.out 6).trans rfl; have hcz5_7 : w4.cell? ⟨gb250, 7, none⟩ = some (.string (⟨#[]⟩ : ByteArray)) := (blk_cell BK250.out 7).trans rfl; have hcz5_8 : w4.cell? ⟨gb250, 8, none⟩ = some (.int .i64 0) := (blk_cell BK250.out 8).trans rfl; have hfz5_0 := blk_frozen BK250.out 0; have hfz5_1 := blk_frozen BK250.out 1; have hfz5_2 := blk_frozen BK250.out 2; have hfz5_3 := blk_frozen BK250.out 3; have hfz5_4 := blk_frozen BK250.out 4; have hfz5_5 := blk_frozen BK250.out 5; have hfz5_6 := blk_frozen BK250.out 6; have hfz5_7 := blk_frozen BK250.out 7; have hfz5_8 := blk_frozen BK250.out 8))
  refine bodyPost_ret (results_cell_row rfl _ _ gb250 47 #[.int .i64 a0, .int .i64 0, .slice none 0 0, .int .i64 0, .int .i64 0, .int .i64 2, .string a1, .string a2, .int .i64 0] (0, 0) _ rfl (by (with_reducible repeat (first | refine blk_drewN ?_ _ | refine blk_drew ?_ | refine blk_alloc ?_ _)); refine blk_put (cs := #[.int .i64 a0, .int .i64 0, .slice none 0 0, .int .i64 0, .int .i64 0, .int .i64 2, .string a1, .string a2, .int .i64 0]) ?_ 8 _ rfl; (with_reducible repeat (first | refine blk_drewN ?_ _ | refine blk_drew ?_ | refine blk_alloc ?_ _)); refine blk_put (cs := #[.int .i64 a0, .int .i64 0, .slice none 0 0, .int .i64 0, .int .i64 0, .int .i64 2, .string a1, .string (⟨#[]⟩ : ByteArray), .int .i64 0]) ?_ 7 _ rfl; (with_reducible repeat (first | refine blk_drewN ?_ _ | refine blk_drew ?_ | refine blk_alloc ?_ _)); refine blk_put (cs := #[.int .i64 a0, .int .i64 0, .slice none 0 0, .int .i64 0, .int .i64 0, .int .i64 2, .string (⟨#[]⟩ : ByteArray), .string (⟨#[]⟩ : ByteArray), .int .i64 0]) ?_ 6 _ rfl; (with_reducible repeat (first | refine blk_drewN ?_ _ | refine blk_drew ?_ | refine blk_alloc ?_ _)); refine blk_put (cs := #[.int .i64 a0, .int .i64 0, .slice none 0 0, .int .i64 0, .int .i64 0, .int .i64 0, .string (⟨#[]⟩ : ByteArray), .string (⟨#[]⟩ : ByteArray), .int .i64 0]) ?_ 5 _ rfl; (with_reducible repeat (first | refine blk_drewN ?_ _ | refine blk_drew ?_ | refine blk_alloc ?_ _)); refine blk_put (cs := #[.int .i64 a0, .int .i64 0, .slice none 0 0, .int .i64 0, .int .i64 0, .int .i64 0, .string (⟨#[]⟩ : ByteArray), .string (⟨#[]⟩ : ByteArray), .int .i64 0]) ?_ 4 _ rfl; (with_reducible repeat (first | refine blk_drewN ?_ _ | refine blk_drew ?_ | refine blk_alloc ?_ _)); refine blk_put (cs := #[.int .i64 a0, .int .i64 0, .slice none 0 0, .int .i64 0, .int .i64 0, .int .i64 0, .string (⟨#[]⟩ : ByteArray), .string (⟨#[]⟩ : ByteArray), .int .i64 0]) ?_ 3 _ rfl; (with_reducible repeat (first | refine blk_drewN ?_ _ | refine blk_drew ?_ | refine blk_alloc ?_ _)); refine blk_put (cs := #[.int .i64 a0, .int .i64 0, .slice none 0 0, .int .i64 0, .int .i64 0, .int .i64 0, .string (⟨#[]⟩ : ByteArray), .string (⟨#[]⟩ : ByteArray), .int .i64 0]) ?_ 2 _ rfl; (with_reducible repeat (first | refine blk_drewN ?_ _ | refine blk_drew ?_ | refine blk_alloc ?_ _)); refine blk_put (cs := #[.int .i64 a0, .int .i64 0, .slice none 0 0, .int .i64 0, .int .i64 0, .int .i64 0, .string (⟨#[]⟩ : ByteArray), .string (⟨#[]⟩ : ByteArray), .int .i64 0]) ?_ 1 _ rfl; (with_reducible repeat (first | refine blk_drewN ?_ _ | refine blk_drew ?_ | refine blk_alloc ?_ _)); refine blk_put (cs := #[.int .i64 0, .int .i64 0, .slice none 0 0, .int .i64 0, .int .i64 0, .int .i64 0, .string (⟨#[]⟩ : ByteArray), .string (⟨#[]⟩ : ByteArray), .int .i64 0]) ?_ 0 _ rfl; (with_reducible repeat (first | refine blk_drewN ?_ _ | refine blk_drew ?_ | refine blk_alloc ?_ _)); exact BK250.out) Try.underlying47 rfl (by kernel_rfl)) rfl ?_
  exact ⟨rfl, by repeat (first | (with_reducible first | exact HB.out | apply below_alloc | apply pw_below_drewN | apply below_drew1 | refine below_set ?_ GE250.out) | exact HB.out)⟩
def sT (i : Int) (a b : ByteArray) : S47 := ⟨⟨i, 0, []⟩, 0, 0, 2, a, b, 0⟩
def l4 : List S47 := [sT 1 ⟨#[97]⟩ ⟨#[99]⟩, sT 4 ⟨#[98]⟩ ⟨#[100]⟩, sT 2 ⟨#[120]⟩ ⟨#[122]⟩, sT 3 ⟨#[97]⟩ ⟨#[97]⟩]
theorem l4_full : fullTo l4 3 = [0] := by decide
theorem l4_full3 : fullTo (l4.drop 1) 3 = [] := by decide
theorem l4_lvl : l4.filter (lvl 0) = l4 := by rfl
theorem l4_ar : arL l4 = (⟨#[97]⟩, ⟨#[122]⟩) := by kernel_rfl
theorem l4_ids : sortI (l4.map idT) = [1, 2, 3, 4] :=
  sorted_eq ((sortI_perm _).trans (show List.Perm [1, 4, 2, 3] [1, 2, 3, 4] by decide)) (sortI_sorted _) (by decide)
theorem l4_over : sortI ((l4.filter (ovP 1 ⟨#[97]⟩ ⟨#[122]⟩)).map idT) = [] := by kernel_rfl
theorem l4_bound : pick_Bound.f 6 0 0 [] l4 = some 25 := by kernel_rfl
theorem l4_bot : botL l4 0 [1, 2, 3, 4] [] = true := by kernel_rfl
theorem l4_ok : ∀ x ∈ l4, okT x := by
  intro x hx
  simp only [l4, List.mem_cons, List.not_mem_nil, or_false] at hx
  rcases hx with rfl | rfl | rfl | rfl <;> exact ⟨by decide, by decide⟩
abbrev c4 : Array Value := #[.int .i64 1, .int .i64 0, .slice none 0 0, .int .i64 0, .int .i64 0, .int .i64 2, .string ⟨#[97]⟩, .string ⟨#[99]⟩, .int .i64 0, .int .i64 4, .int .i64 0, .slice none 0 0, .int .i64 0, .int .i64 0, .int .i64 2, .string ⟨#[98]⟩, .string ⟨#[100]⟩, .int .i64 0, .int .i64 2, .int .i64 0, .slice none 0 0, .int .i64 0, .int .i64 0, .int .i64 2, .string ⟨#[120]⟩, .string ⟨#[122]⟩, .int .i64 0, .int .i64 3, .int .i64 0, .slice none 0 0, .int .i64 0, .int .i64 0, .int .i64 2, .string ⟨#[97]⟩, .string ⟨#[97]⟩, .int .i64 0]
theorem F_l4 {W : World} {g : Nat} (h : W.heap[g]? = some (.cells c4 47 (0, 0))) : Kd.F k47 W (fun _ => True) (some ⟨g, 0, none⟩) l4.length l4 := by
  intro W' hW
  have hb := (hW g trivial (blk_lt h)).trans h
  refine ⟨rfl, by decide, fun _ => ⟨⟨g, 0, none⟩, rfl, ?_⟩⟩
  intro j p hj
  have hcell : ∀ k : Nat, W'.cell? ⟨g, k, none⟩ = c4[k]? := fun k => blk_cell hb k
  have hadd : ∀ k : Nat, (⟨g, 0, none⟩ : Addr).add k = ⟨g, k, none⟩ := fun k => by simp [Addr.add]; intro h; exact h.symm
  have hj4 : j < 4 := by
    rcases Nat.lt_or_ge j 4 with h | h
    · exact h
    · rw [List.getElem?_eq_none (by show l4.length ≤ j; exact h)] at hj; exact absurd hj (by simp)
  have hs : k47.sz = 9 := rfl
  rw [hs]
  rcases (show j = 0 ∨ j = 1 ∨ j = 2 ∨ j = 3 from by omega) with rfl | rfl | rfl | rfl
  · have hj2 := Option.some.inj hj
    subst hj2
    refine ⟨[.int .i64 1, .int .i64 0, .slice none 0 0, .int .i64 0, .int .i64 0, .int .i64 2, .string ⟨#[97]⟩, .string ⟨#[99]⟩, .int .i64 0], rfl, k47_mk W' (sT 1 ⟨#[97]⟩ ⟨#[99]⟩) (A2 := none) (c2 := 0) (Nat.le_refl _) (Kd.C_nil _ _), ?_⟩
    intro i u hu
    rw [hadd, hcell]
    rw [← hu]
    have hi : i < 9 := (List.getElem?_eq_some_iff.mp hu).1
    rcases (show i = 0 ∨ i = 1 ∨ i = 2 ∨ i = 3 ∨ i = 4 ∨ i = 5 ∨ i = 6 ∨ i = 7 ∨ i = 8 from by omega) with rfl | rfl | rfl | rfl | rfl | rfl | rfl | rfl | rfl <;> rfl
  · have hj2 := Option.some.inj hj
    subst hj2
    refine ⟨[.int .i64 4, .int .i64 0, .slice none 0 0, .int .i64 0, .int .i64 0, .int .i64 2, .string ⟨#[98]⟩, .string ⟨#[100]⟩, .int .i64 0], rfl, k47_mk W' (sT 4 ⟨#[98]⟩ ⟨#[100]⟩) (A2 := none) (c2 := 0) (Nat.le_refl _) (Kd.C_nil _ _), ?_⟩
    intro i u hu
    rw [hadd, hcell]
    rw [← hu]
    have hi : i < 9 := (List.getElem?_eq_some_iff.mp hu).1
    rcases (show i = 0 ∨ i = 1 ∨ i = 2 ∨ i = 3 ∨ i = 4 ∨ i = 5 ∨ i = 6 ∨ i = 7 ∨ i = 8 from by omega) with rfl | rfl | rfl | rfl | rfl | rfl | rfl | rfl | rfl <;> rfl
  · have hj2 := Option.some.inj hj
    subst hj2
    refine ⟨[.int .i64 2, .int .i64 0, .slice none 0 0, .int .i64 0, .int .i64 0, .int .i64 2, .string ⟨#[120]⟩, .string ⟨#[122]⟩, .int .i64 0], rfl, k47_mk W' (sT 2 ⟨#[120]⟩ ⟨#[122]⟩) (A2 := none) (c2 := 0) (Nat.le_refl _) (Kd.C_nil _ _), ?_⟩
    intro i u hu
    rw [hadd, hcell]
    rw [← hu]
    have hi : i < 9 := (List.getElem?_eq_some_iff.mp hu).1
    rcases (show i = 0 ∨ i = 1 ∨ i = 2 ∨ i = 3 ∨ i = 4 ∨ i = 5 ∨ i = 6 ∨ i = 7 ∨ i = 8 from by omega) with rfl | rfl | rfl | rfl | rfl | rfl | rfl | rfl | rfl <;> rfl
  · have hj2 := Option.some.inj hj
    subst hj2
    refine ⟨[.int .i64 3, .int .i64 0, .slice none 0 0, .int .i64 0, .int .i64 0, .int .i64 2, .string ⟨#[97]⟩, .string ⟨#[97]⟩, .int .i64 0], rfl, k47_mk W' (sT 3 ⟨#[97]⟩ ⟨#[97]⟩) (A2 := none) (c2 := 0) (Nat.le_refl _) (Kd.C_nil _ _), ?_⟩
    intro i u hu
    rw [hadd, hcell]
    rw [← hu]
    have hi : i < 9 := (List.getElem?_eq_some_iff.mp hu).1
    rcases (show i = 0 ∨ i = 1 ∨ i = 2 ∨ i = 3 ∨ i = 4 ∨ i = 5 ∨ i = 6 ∨ i = 7 ∨ i = 8 from by omega) with rfl | rfl | rfl | rfl | rfl | rfl | rfl | rfl | rfl <;> rfl
theorem pick4 {W : World} {g : Nat} (h : W.heap[g]? = some (.cells c4 47 (0, 0))) : Calls Try.prog 10 #[.agg #[.int .i64 0, .int .i64 0, .slice none 0 0, .slice (some ⟨g, 0, none⟩) 4 4]] W fun e w' => ∃ A1 c1 A2 c2, e = .returned (.tuple #[.agg #[.int .i64 0, .slice A1 4 c1, .slice A2 0 c2], .bool true]) ∧ kI.C w' A1 4 [1, 2, 3, 4] ∧ 4 ≤ c1 ∧ Below W.heap.size W w' := by
  have h1 := pick_zero 0 0 (.slice none 0 0) (some ⟨g, 0, none⟩) 4 l4 W l4_ok (F_l4 h) (by decide) (by decide) [] l4_full l4 l4_lvl _ _ l4_ar (by decide)
  rw [l4_ids, l4_over] at h1
  exact h1
theorem pick3 {W : World} {g : Nat} (h : W.heap[g]? = some (.cells c4 47 (0, 0))) : Calls Try.prog 10 #[.agg #[.int .i64 0, .int .i64 0, .slice none 0 0, .slice (some ⟨g, 9, none⟩) 3 3]] W fun e w' => e = .returned (.tuple #[.agg #[.int .i64 0, .slice none 0 0, .slice none 0 0], .bool false]) ∧ Below W.heap.size W w' :=
  pick_none 0 0 (.slice none 0 0) (some ⟨g, 9, none⟩) 3 (l4.drop 1) W (fun x hx => l4_ok x (List.mem_of_mem_drop hx)) (Kd.F_cut (m := 1) (c := 4) (F_l4 h) (by decide) (by decide)) (by decide) (by decide) l4_full3
theorem bound4 {W : World} {g : Nat} (h : W.heap[g]? = some (.cells c4 47 (0, 0))) : Calls Try.prog 9 #[.agg #[.int .i64 0, .int .i64 0, .slice none 0 0, .slice (some ⟨g, 0, none⟩) 4 4]] W fun e w' => e = .returned (.int .i64 25) ∧ Below W.heap.size W w' :=
  pick_Bound.calls 6 0 0 none 0 [] (some ⟨g, 0, none⟩) 4 l4 25 W (Kd.C_nil _ _) (Nat.le_refl _) (Kd.F_now (F_l4 h)) (by decide) l4_bound
theorem bottom4 {W : World} {g : Nat} (h : W.heap[g]? = some (.cells c4 47 (0, 0))) (A1 A2 : Option Addr) (c1 c2 : Nat) (hI : kI.C W A1 4 [1, 2, 3, 4]) (hc : 4 ≤ c1) : Calls Try.prog 22 #[.agg #[.int .i64 0, .int .i64 0, .slice none 0 0, .slice (some ⟨g, 0, none⟩) 4 4], .agg #[.int .i64 0, .slice A1 4 c1, .slice A2 0 c2]] W fun e w' => e = .returned (.bool true) ∧ Below W.heap.size W w' := by
  have h1 := bottom_c 0 0 (.slice none 0 0) (some ⟨g, 0, none⟩) 4 l4 W l4_ok (F_l4 h) (by decide) (by decide) 0 A1 A2 c1 c2 [1, 2, 3, 4] [] hI hc (by decide) ⟨rfl, by decide, fun h => absurd h (by decide)⟩ (Nat.zero_le _) (by decide) (by decide) (by decide)
  rw [l4_bot] at h1
  exact h1
theorem limit8 (w : World) : Calls Try.prog 15 #[.int .i64 2] w fun e w' => e = .returned (.int .i64 8) ∧ Below w.heap.size w w' := limit_c 2 w (by decide) (by decide)
end Go.Proofs.Ytgnmdhjnpbnacaa.PB
end
section
set_option linter.unusedVariables false
set_option linter.unusedSimpArgs false
namespace Go.Proofs.Ytgnmdhjnpbnacaa.PB
open Go.RowKit Go.Proofs.YtgnmdhjnpbnacaaW.PrintWords Go.Proofs.YtgnmdhjnpbnacaaW.PrintLast Go.Proofs.YtgnmdhjnpbnacaaW.PrintMore
/-- the example's boxes, before its first job. -/
structure AV (w0 : World) (g : Nat) (W : World) : Prop where
  below : Below w0.heap.size w0 W
  b4 : W.heap[g]? = some (.cells c4 47 (0, 0))
  bv : W.heap[g + 1]? = some (.cells #[.int .i64 0, .int .i64 0, .slice none 0 0, .slice (some ⟨g, 0, none⟩) 4 4] 25 (0, 0))
theorem AV.to {w0 : World} {g : Nat} {W W2 : World} (h : AV w0 g W) (hB : Below W.heap.size W W2) : AV w0 g W2 := ⟨below_step h.below hB, blk_below h.b4 hB, blk_below h.bv hB⟩
theorem AV.cells {w0 : World} {g : Nat} {W : World} (h : AV w0 g W) : W.cell? ⟨g + 1, 0, none⟩ = some (.int .i64 0) ∧ W.cell? ⟨g + 1, 1, none⟩ = some (.int .i64 0) ∧ W.cell? ⟨g + 1, 2, none⟩ = some (.slice none 0 0) ∧ W.cell? ⟨g + 1, 3, none⟩ = some (.slice (some ⟨g, 0, none⟩) 4 4) :=
  ⟨blk_cell h.bv 0, blk_cell h.bv 1, blk_cell h.bv 2, blk_cell h.bv 3⟩
theorem AV.start {w0 W : World} (h : Below w0.heap.size w0 W) : AV w0 W.heap.size ((W.alloc (.cells c4 47)).alloc (.cells #[.int .i64 0, .int .i64 0, .slice none 0 0, .slice (some ⟨W.heap.size, 0, none⟩) 4 4] 25)) := by
  refine ⟨below_alloc (below_alloc h _) _, blk_alloc (blk_new _ _) _, ?_⟩
  have h := blk_new (W.alloc (.cells c4 47)) (.cells #[.int .i64 0, .int .i64 0, .slice none 0 0, .slice (some ⟨W.heap.size, 0, none⟩) 4 4] 25)
  rwa [show (W.alloc (.cells c4 47)).heap.size = W.heap.size + 1 from by simp] at h
/-- and behind it: its job's box. -/
structure AW (w0 : World) (g gj : Nat) (A1 A2 : Option Addr) (c1 c2 : Nat) (W : World) : Prop where
  av : AV w0 g W
  bj : W.heap[gj]? = some (.cells #[.int .i64 0, .slice A1 4 c1, .slice A2 0 c2] 34 (0, 0))
  cI : kI.C W A1 4 [1, 2, 3, 4]
theorem AW.to {w0 : World} {g gj : Nat} {A1 A2 : Option Addr} {c1 c2 : Nat} {W W2 : World} (h : AW w0 g gj A1 A2 c1 c2 W) (hB : Below W.heap.size W W2) : AW w0 g gj A1 A2 c1 c2 W2 := ⟨h.av.to hB, blk_below h.bj hB, Kd.C_below h.cI hB⟩
theorem AW.cells {w0 : World} {g gj : Nat} {A1 A2 : Option Addr} {c1 c2 : Nat} {W : World} (h : AW w0 g gj A1 A2 c1 c2 W) : W.cell? ⟨gj, 0, none⟩ = some (.int .i64 0) ∧ W.cell? ⟨gj, 1, none⟩ = some (.slice A1 4 c1) ∧ W.cell? ⟨gj, 2, none⟩ = some (.slice A2 0 c2) := ⟨blk_cell h.bj 0, blk_cell h.bj 1, blk_cell h.bj 2⟩
theorem AW.start {w0 W : World} {g : Nat} {A1 A2 : Option Addr} {c1 c2 : Nat} (h : AV w0 g W) (hI : kI.C W A1 4 [1, 2, 3, 4]) : AW w0 g W.heap.size A1 A2 c1 c2 (W.alloc (.cells #[.int .i64 0, .slice A1 4 c1, .slice A2 0 c2] 34)) :=
  ⟨h.to (below_alloc (Below.refl _ _) _), blk_new _ _, Kd.C_below hI (below_alloc (Below.refl _ _) _)⟩
theorem row_1234 {W : World} {g : Nat} (h : W.heap[g]? = some (.cells #[.int .i64 1, .int .i64 2, .int .i64 3, .int .i64 4] 3 (0, 0))) : kI.C W (some ⟨g, 0, none⟩) 4 [1, 2, 3, 4] := by
  refine ⟨rfl, by decide, fun _ => ⟨⟨g, 0, none⟩, rfl, ?_⟩⟩
  intro j p hj
  have hadd : ∀ k : Nat, (⟨g, 0, none⟩ : Addr).add k = ⟨g, k, none⟩ := fun k => by simp [Addr.add]; intro h; exact h.symm
  have hs : kI.sz = 1 := rfl
  rw [hs]
  have hj4 : j < 4 := (List.getElem?_eq_some_iff.mp hj).1
  refine ⟨[.int .i64 p], rfl, rfl, ?_⟩
  intro i u hu
  have hi : i < 1 := (List.getElem?_eq_some_iff.mp hu).1
  obtain rfl : i = 0 := by omega
  rw [hadd, blk_cell h]
  have hu2 := Option.some.inj hu
  subst hu2
  rcases (show j = 0 ∨ j = 1 ∨ j = 2 ∨ j = 3 from by omega) with rfl | rfl | rfl | rfl <;> (have hj2 := Option.some.inj hj; subst hj2; rfl)
theorem row_new (W : World) (o : Obj) : kI.C ((W.alloc o).alloc (.cells #[.int .i64 1, .int .i64 2, .int .i64 3, .int .i64 4] 3)) (some ⟨W.heap.size + 1, 0, none⟩) 4 [1, 2, 3, 4] := by
  have h := row_1234 (blk_new (W.alloc o) (.cells #[.int .i64 1, .int .i64 2, .int .i64 3, .int .i64 4] 3))
  rwa [show (W.alloc o).heap.size = W.heap.size + 1 from by simp] at h
theorem same4 {W : World} {A1 A2 : Option Addr} {c1 c2 : Nat} (h1 : kI.C W A1 4 [1, 2, 3, 4]) (hc1 : 4 ≤ c1) (h2 : kI.C W A2 4 [1, 2, 3, 4]) (hc2 : 4 ≤ c2) : Calls Try.prog 17 #[.slice A1 4 c1, .slice A2 4 c2] W fun e w' => e = .returned (.bool true) ∧ Below W.heap.size W w' :=
  same_c A1 c1 A2 c2 [1, 2, 3, 4] W (by decide) h1 hc1 h2 hc2
set_option maxHeartbeats 16000000 in
set_option maxRecDepth 100000 in
theorem awake_c (w : World) : Calls Try.prog 7 #[] w fun e w' => e = .returned (.bool true) ∧ Below w.heap.size w w' := by
  have HB0 := Aside0.mk (Below.refl w.heap.size w)
  go_enter Try.func7, Try.ntmps7
  go_wp2_with (first | (go_at_call 21; with_reducible refine (small_c _ _ _ _).mono ?_; rintro e w2 ⟨rfl, hB2⟩; have HB0 := Aside0.mk (below_step HB0.out hB2); clear hB2) | (go_at_call 10; first | (have HAV := Aside0.mk (AV.start HB0.out); with_reducible refine (pick4 HAV.out.b4).mono ?_; rintro e w5 ⟨A1, c1, A2, c2, rfl, hI, hc1, hB5⟩; have HAW := Aside0.mk (AW.start (A2 := A2) (c1 := c1) (c2 := c2) (HAV.out.to hB5) hI); obtain ⟨v0, v1, v2, v3⟩ := AV.cells HAW.out.av; have HC1 := Aside0.mk hc1; clear hB5 hI hc1) | (with_reducible refine (pick3 HAW.out.av.b4).mono ?_; rintro e w6 ⟨rfl, hB6⟩; have HAX := Aside0.mk (HAW.out.to (below_alloc hB6 (.cells #[.int .i64 0, .slice none 0 0, .slice none 0 0] 34))); obtain ⟨j0, j1, j2⟩ := AW.cells HAX.out; clear hB6)) | (go_at_call 17; have HAY := Aside0.mk (HAX.out.to (below_alloc (Below.refl _ _) (.cells #[.int .i64 1, .int .i64 2, .int .i64 3, .int .i64 4] 3))); have HR := Aside0.mk (row_new w6 (.cells #[.int .i64 0, .slice none 0 0, .slice none 0 0] 34)); with_reducible refine (same4 HAY.out.cI HC1.out HR.out (Nat.le_refl _)).mono ?_; rintro e w7 ⟨rfl, hB7⟩; have HA7 := Aside0.mk (HAY.out.to hB7); obtain ⟨j0, j1, j2⟩ := AW.cells HA7.out; clear hB7) | (go_at_call 15; with_reducible refine (limit8 _).mono ?_; rintro e w8 ⟨rfl, hB8⟩; have HA8 := Aside0.mk (HA7.out.to hB8); obtain ⟨v0, v1, v2, v3⟩ := AV.cells HA8.out.av; clear hB8) | (go_at_call 9; with_reducible refine (bound4 HA8.out.av.b4).mono ?_; rintro e w9 ⟨rfl, hB9⟩; have HA9 := Aside0.mk (HA8.out.to hB9); obtain ⟨j0, j1, j2⟩ := AW.cells HA9.out; obtain ⟨v0, v1, v2, v3⟩ := AV.cells HA9.out.av; clear hB9) | (go_at_call 22; with_reducible refine (bottom4 HA9.out.av.b4 _ _ _ _ HA9.out.cI HC1.out).mono ?_; rintro e w10 ⟨rfl, hB10⟩; have HA10 := Aside0.mk (HA9.out.to hB10); clear hB10))
  go_ret
  exact ⟨rfl, HA10.out.av.below⟩
end Go.Proofs.Ytgnmdhjnpbnacaa.PB
end
section
set_option linter.unusedVariables false
set_option linter.unusedSimpArgs false
namespace Go.Proofs.Ytgnmdhjnpbnacaa.PB
open Go.RowKit Go.Proofs.YtgnmdhjnpbnacaaW.PrintWords Go.Proofs.YtgnmdhjnpbnacaaW.PrintLast Go.Proofs.YtgnmdhjnpbnacaaW.PrintMore
def cutT (x : S47) : S47 := ⟨⟨x.f0.f0, x.f0.f1, x.f0.f2⟩, x.f1, x.f2, x.f3, x.f4.extract 0 ((mn (x.f4.size : Int) 70) : Int).toNat, x.f5.extract 0 ((mn (x.f5.size : Int) 70) : Int).toNat, x.f6⟩
def fewL (l : List S47) : List S47 := (l.take 130).map cutT
theorem mn0 (n : Nat) : 0 ≤ mn (n : Int) 70 := by unfold mn; split <;> omega
theorem mn1 (n : Nat) : mn (n : Int) 70 ≤ (n : Int) := by unfold mn; split <;> omega
theorem few_step (l : List S47) (i : Nat) (hi : i < l.length) : (l.take (i + 1)).map cutT = (l.take i).map cutT ++ [cutT (l.getD i z47)] := by
  have hD : l.getD i z47 = l[i] := by rw [List.getD_eq_getElem?_getD, List.getElem?_eq_getElem hi]; rfl
  rw [List.take_succ_eq_append_getElem hi, List.map_append, hD]
  rfl
theorem few_all (l : List S47) (i : Nat) (h : i = min l.length 130) : (l.take i).map cutT = fewL l := by
  unfold fewL
  rcases Nat.le_total l.length 130 with h1 | h1
  · rw [List.take_of_length_le (by omega), List.take_of_length_le h1]
  · rw [show i = 130 from by omega]
theorem Ev_few (l : List S47) (hl : l.length ≤ 9223372036854775806) (a b : Int) (lg : List S57) : ∀ m i, m + i = min l.length 130 → Ev (fun k => lienlaw17_few.l0 k (i : Int) a b lg l 0 0 ((l.take i).map cutT)) (0, 0, [], fewL l) := by
  intro m
  induction m with
  | zero =>
    intro i hm
    refine Ev.step (f := fun _ => some (0, 0, [], fewL l)) (fun k => ?_) (Ev.now _)
    have hf := few_all l i (by omega)
    by_cases h : i < l.length
    · rw [lienlaw17_few.l0, if_pos (by omega), if_neg (by omega), hf]
    · rw [lienlaw17_few.l0, if_neg (by omega), hf]
  | succ m ih =>
    intro i hm
    have hs := few_step l i (by omega)
    refine Ev.step (f := fun k => lienlaw17_few.l0 k ((i + 1 : Nat) : Int) a b lg l 0 0 ((l.take (i + 1)).map cutT)) (fun k => ?_) (ih (i + 1) (by omega))
    rw [lienlaw17_few.l0, if_pos (by omega), if_pos (by omega), if_pos (by omega), if_pos (mn0 _), if_pos (mn1 _), if_pos (mn0 _), if_pos (mn1 _), if_pos (by rw [List.length_map, List.length_take]; omega), w_next _ (by omega), rdT_D, hs]
    rfl
theorem few_len (l : List S47) : (fewL l).length ≤ 130 := by unfold fewL; rw [List.length_map, List.length_take]; omega
theorem few_ok (l : List S47) (h : ∀ x ∈ l, okT x) : ∀ x ∈ fewL l, okT x := by
  intro x hx
  obtain ⟨y, hy, rfl⟩ := List.mem_map.mp hx
  exact h y (List.mem_of_mem_take hy)
theorem few_c (P : Nat → Prop) (n s : Int) (Al : Option Addr) (cl : Nat) (lg : List S57) (A : Option Addr) (c : Nat) (l : List S47) (w : World) (hl : l.length ≤ 9223372036854775806) (hlg : Kd.C k57 w Al lg.length lg) (hcl : lg.length ≤ cl) (hF : Kd.F k47 w P A l.length l) (hc : l.length ≤ c) :
    Calls Try.prog 6 #[.agg #[.int .i64 n, .int .i64 s, .slice Al lg.length cl, .slice A l.length c]] w fun e w' => ∃ A2 c2 A3 c3, e = .returned (.agg #[.int .i64 0, .int .i64 0, .slice A2 0 c2, .slice A3 (fewL l).length c3]) ∧ Kd.F k47 w' (fun k => P k ∨ w.heap.size ≤ k) A3 (fewL l).length (fewL l) ∧ (fewL l).length ≤ c3 ∧ Below w.heap.size w w' := by
  obtain ⟨k, hk⟩ := (show Ev (fun k => lienlaw17_few.f k n s lg l) (0, 0, [], fewL l) from Ev_few l hl n s lg (min l.length 130) 0 (by omega)).rounds
  refine (lienlaw17_few.calls k n s Al cl lg P A c l 0 0 [] (fewL l) w hlg hcl (Kd.V_mk hc hF) hk).mono ?_
  rintro e w' ⟨v2, v3, rfl, hN2, hN3, hB⟩
  obtain ⟨A2, c2, rfl⟩ := Kd.N_slice hN2
  obtain ⟨A3, c3, rfl⟩ := Kd.N_slice hN3
  exact ⟨A2, c2, A3, c3, rfl, Kd.F_mono (Kd.N_F hN3) (fun _ hk => hk.1), (Kd.N_reads' hN3).2.1, hB⟩
end Go.Proofs.Ytgnmdhjnpbnacaa.PB
end
section
set_option linter.unusedVariables false
set_option linter.unusedSimpArgs false
namespace Go.Proofs.Ytgnmdhjnpbnacaa.PB
open Go.RowKit Go.Proofs.YtgnmdhjnpbnacaaW.PrintWords Go.Proofs.YtgnmdhjnpbnacaaW.PrintLast Go.Proofs.YtgnmdhjnpbnacaaW.PrintMore
end Go.Proofs.Ytgnmdhjnpbnacaa.PB
end
section
set_option linter.unusedVariables false
set_option linter.unusedSimpArgs false
namespace Go.Proofs.Ytgnmdhjnpbnacaa.PB
open Go.RowKit Go.Proofs.YtgnmdhjnpbnacaaW.PrintWords Go.Proofs.YtgnmdhjnpbnacaaW.PrintLast Go.Proofs.YtgnmdhjnpbnacaaW.PrintMore
theorem size25 : (Try.prog.info? 25).map (·.size) = some 4 := by kernel_rfl
/-- what PickTells leans on, in each world it comes to. -/
structure TP (w0 : World) (g : Nat) (A2 : Option Addr) (c2 : Nat) (A3 : Option Addr) (c3 : Nat) (l : List S47) (W : World) : Prop where
  below : Below w0.heap.size w0 W
  bv : W.heap[g]? = some (.cells #[.int .i64 0, .int .i64 0, .slice A2 0 c2, .slice A3 l.length c3] 25 (0, 0))
  fl : Kd.F k47 W (fun _ => True) A3 l.length l
theorem TP.to {w0 : World} {g : Nat} {A2 : Option Addr} {c2 : Nat} {A3 : Option Addr} {c3 : Nat} {l : List S47} {W W2 : World} (h : TP w0 g A2 c2 A3 c3 l W) (hB : Below W.heap.size W W2) : TP w0 g A2 c2 A3 c3 l W2 := ⟨below_step h.below hB, blk_below h.bv hB, Kd.F_below h.fl hB⟩
theorem TP.drew {w0 : World} {g : Nat} {A2 : Option Addr} {c2 : Nat} {A3 : Option Addr} {c3 : Nat} {l : List S47} {W : World} (h : TP w0 g A2 c2 A3 c3 l W) : TP w0 g A2 c2 A3 c3 l W.drew := h.to (below_drew (Below.refl _ _))
theorem TP.conj {w0 : World} {g : Nat} {A2 : Option Addr} {c2 : Nat} {A3 : Option Addr} {c3 : Nat} {l : List S47} {W : World} (h : TP w0 g A2 c2 A3 c3 l W) : W.cell? ⟨g, 0, none⟩ = some (.int .i64 0) ∧ W.cell? ⟨g, 1, none⟩ = some (.int .i64 0) ∧ W.cell? ⟨g, 2, none⟩ = some (.slice A2 0 c2) ∧ W.cell? ⟨g, 3, none⟩ = some (.slice A3 l.length c3) ∧ Aside0 (TP w0 g A2 c2 A3 c3 l W) :=
  ⟨blk_cell h.bv 0, blk_cell h.bv 1, blk_cell h.bv 2, blk_cell h.bv 3, ⟨h⟩⟩
theorem TP.of {w0 : World} {g : Nat} {A2 : Option Addr} {c2 : Nat} {A3 : Option Addr} {c3 : Nat} {l : List S47} {W : World} (h : W.cell? ⟨g, 0, none⟩ = some (.int .i64 0) ∧ W.cell? ⟨g, 1, none⟩ = some (.int .i64 0) ∧ W.cell? ⟨g, 2, none⟩ = some (.slice A2 0 c2) ∧ W.cell? ⟨g, 3, none⟩ = some (.slice A3 l.length c3) ∧ Aside0 (TP w0 g A2 c2 A3 c3 l W)) : TP w0 g A2 c2 A3 c3 l W := h.2.2.2.2.out
theorem TP.next {w0 : World} {g : Nat} {A2 : Option Addr} {c2 : Nat} {A3 : Option Addr} {c3 : Nat} {l : List S47} {W W2 : World} (hB : Below W.heap.size W W2) (h : W.cell? ⟨g, 0, none⟩ = some (.int .i64 0) ∧ W.cell? ⟨g, 1, none⟩ = some (.int .i64 0) ∧ W.cell? ⟨g, 2, none⟩ = some (.slice A2 0 c2) ∧ W.cell? ⟨g, 3, none⟩ = some (.slice A3 l.length c3) ∧ Aside0 (TP w0 g A2 c2 A3 c3 l W)) : TP w0 g A2 c2 A3 c3 l W2 := (TP.of h).to hB
theorem nilC {α : Type} (d : Kd α) (W : World) (A : Option Addr) : Kd.C d W A ([] : List α).length [] := ⟨rfl, Nat.zero_le _, fun h => absurd h (Nat.lt_irrefl 0)⟩
theorem alloc_ne (w : World) (o : Obj) (k : Nat) (hk : k < w.heap.size ∨ (w.alloc o).heap.size ≤ k) (e : k = w.heap.size) : False := by
  have h : (w.alloc o).heap.size = w.heap.size + 1 := by simp
  omega
/-- a row told at an earlier world, at this one. -/
theorem row_R {W : World} {base : Nat} {A : Option Addr} {n c : Nat} {xs : List Int} (h : kI.R 3 W base (fun _ => True) (.slice A n c) xs) : kI.C W A xs.length xs ∧ xs.length ≤ c := by
  have h3 := Kd.R_reads' h
  exact ⟨h3.2.2, h3.1 ▸ h3.2.1⟩
theorem TP.over {w0 : World} {g : Nat} {A2 : Option Addr} {c2 : Nat} {A3 : Option Addr} {c3 : Nat} {l : List S47} {W : World} (hq : ∀ x ∈ l, okT x) (hc : l.length ≤ c3) (hl : l.length ≤ 200) (nn : Int) (lo hi : ByteArray) (h : TP w0 g A2 c2 A3 c3 l W) : Calls Try.prog 19 #[.agg #[.int .i64 0, .int .i64 0, .slice A2 0 c2, .slice A3 l.length c3], .int .i64 nn, .string lo, .string hi] W fun e w' => ∃ A' c', e = .returned (.slice A' (sortI ((l.filter (ovP nn lo hi)).map idT)).length c') ∧ kI.C w' A' (sortI ((l.filter (ovP nn lo hi)).map idT)).length (sortI ((l.filter (ovP nn lo hi)).map idT)) ∧ (sortI ((l.filter (ovP nn lo hi)).map idT)).length ≤ c' ∧ Below W.heap.size W w' := by
  refine (overlap_c nn 0 0 lo hi _ A3 c3 l W hq h.fl hc hl).mono ?_
  rintro e w' ⟨A', c', rfl, hR, hB⟩
  exact ⟨A', c', rfl, (row_R hR).1, (row_R hR).2, hB⟩
end Go.Proofs.Ytgnmdhjnpbnacaa.PB
end
section
set_option linter.unusedVariables false
set_option linter.unusedSimpArgs false
namespace Go.Proofs.Ytgnmdhjnpbnacaa.PB
open Go.RowKit Go.Proofs.YtgnmdhjnpbnacaaW.PrintWords Go.Proofs.YtgnmdhjnpbnacaaW.PrintLast Go.Proofs.YtgnmdhjnpbnacaaW.PrintMore
set_option maxHeartbeats 8000000 in
set_option maxRecDepth 100000 in
theorem meetR_c (x y : S47) (A1 A2 : Option Addr) (c1 c2 : Nat) (W : World) :
    Calls Try.prog 27 #[.agg #[.int .i64 x.f0.f0, .int .i64 x.f0.f1, .slice A1 x.f0.f2.length c1, .int .i64 x.f1, .int .i64 x.f2, .int .i64 x.f3, .string x.f4, .string x.f5, .int .i64 x.f6], .agg #[.int .i64 y.f0.f0, .int .i64 y.f0.f1, .slice A2 y.f0.f2.length c2, .int .i64 y.f1, .int .i64 y.f2, .int .i64 y.f3, .string y.f4, .string y.f5, .int .i64 y.f6]] W fun e w' => e = .returned (.bool (meetB y.f4 y.f5 x)) ∧ Below W.heap.size W w' := by
  have HB := Aside0.mk (below_alloc (below_alloc (Below.refl W.heap.size W) (.cells #[.int .i64 x.f0.f0, .int .i64 x.f0.f1, .slice A1 x.f0.f2.length c1, .int .i64 x.f1, .int .i64 x.f2, .int .i64 x.f3, .string x.f4, .string x.f5, .int .i64 x.f6] 47)) (.cells #[.int .i64 y.f0.f0, .int .i64 y.f0.f1, .slice A2 y.f0.f2.length c2, .int .i64 y.f1, .int .i64 y.f2, .int .i64 y.f3, .string y.f4, .string y.f5, .int .i64 y.f6] 47))
  go_enter Try.func27, Try.ntmps27
  go_wp2
  · go_ret
    exact ⟨rfl, HB.out⟩
  · rename_i h
    have e : meetB y.f4 y.f5 x = false := by unfold meetB; rw [leS_no h]; rfl
    rw [e]
    go_ret
    exact ⟨rfl, HB.out⟩
end Go.Proofs.Ytgnmdhjnpbnacaa.PB
end
section
set_option linter.unusedVariables false
set_option linter.unusedSimpArgs false
namespace Go.Proofs.Ytgnmdhjnpbnacaa.PB
open Go.RowKit Go.Proofs.YtgnmdhjnpbnacaaW.PrintWords Go.Proofs.YtgnmdhjnpbnacaaW.PrintLast Go.Proofs.YtgnmdhjnpbnacaaW.PrintMore
def hasI (l : List Int) (n : Int) : Bool := decide (n ∈ l)
theorem Ev_has (l : List Int) (n : Int) (hl : l.length ≤ 1000000) : ∀ m i, m + i = l.length → (∀ j, j < i → l.getD j 0 ≠ n) → Ev (fun k => lienref17_Has.l0 k l n (i : Int)) (hasI l n) := by
  intro m
  induction m with
  | zero =>
    intro i hm h
    have e : hasI l n = false := by
      unfold hasI
      rw [decide_eq_false_iff_not]
      intro hmem
      obtain ⟨j, hj, hjn⟩ := List.getElem_of_mem hmem
      refine h j (by omega) ?_
      rw [List.getD_eq_getElem?_getD, List.getElem?_eq_getElem hj]
      exact hjn
    rw [e]
    refine Ev.step (f := fun _ => some false) (fun k => ?_) (Ev.now _)
    rw [lienref17_Has.l0, if_neg (by omega)]
  | succ m ih =>
    intro i hm h
    by_cases he : l.getD i 0 = n
    · have e : hasI l n = true := by
        unfold hasI
        rw [decide_eq_true_eq, ← he, List.getD_eq_getElem?_getD, List.getElem?_eq_getElem (show i < l.length by omega)]
        exact List.getElem_mem _
      rw [e]
      refine Ev.step (f := fun _ => some true) (fun k => ?_) (Ev.now _)
      rw [lienref17_Has.l0, if_pos (by omega), if_pos (by omega), rd_D, if_pos he]
    · refine Ev.step (f := fun k => lienref17_Has.l0 k l n ((i + 1 : Nat) : Int)) (fun k => ?_) (ih (i + 1) (by omega) (fun j hj => by
        by_cases ej : j = i
        · rw [ej]; exact he
        · exact h j (by omega)))
      rw [lienref17_Has.l0, if_pos (by omega), if_pos (by omega), rd_D, if_neg he, w_next _ (by omega)]
theorem has_c (A : Option Addr) (c : Nat) (l : List Int) (n : Int) (b : Bool) (hb : hasI l n = b) (w : World) (hC : kI.C w A l.length l) (hc : l.length ≤ c) (hl : l.length ≤ 1000000) :
    Calls Try.prog 14 #[.slice A l.length c, .int .i64 n] w fun e w' => e = .returned (.bool b) ∧ Below w.heap.size w w' := by
  obtain ⟨k, hk⟩ := (show Ev (fun k => lienref17_Has.f k l n) b from hb ▸ Ev_has l n hl l.length 0 (by omega) (fun j hj => absurd hj (by omega))).rounds
  exact (lienref17_Has.calls k A c l n b w hC hc hk).mono fun e w' ⟨h, d⟩ => ⟨h, d.below⟩
/-- is a table named by a job? -/
def inJ (a b : List Int) (x : S47) : Bool := hasI a x.f0.f0 || hasI b x.f0.f0
def outJ (a b : List Int) (x : S47) : Bool := !inJ a b x
theorem take_len_le (p : S47 → Bool) (l : List S47) (i : Nat) : ((l.take i).filter p).length ≤ l.length := Nat.le_trans (List.length_filter_le _ _) (by rw [List.length_take]; omega)
end Go.Proofs.Ytgnmdhjnpbnacaa.PB
end
section
set_option linter.unusedVariables false
set_option linter.unusedSimpArgs false
namespace Go.Proofs.Ytgnmdhjnpbnacaa.PB
open Go.RowKit Go.Proofs.YtgnmdhjnpbnacaaW.PrintWords Go.Proofs.YtgnmdhjnpbnacaaW.PrintLast Go.Proofs.YtgnmdhjnpbnacaaW.PrintMore
def fromB (a lo hi : Int) : Bool := decide (lo ≤ a) && decide (a ≤ hi)
theorem from_eq (a lo hi : Int) : lienref15_from.f a lo hi = some (fromB a lo hi) := by
  unfold lienref15_from.f fromB
  by_cases h : lo ≤ a
  · rw [if_pos h, decide_eq_true h, Bool.true_and]
  · rw [if_neg h, decide_eq_false h, Bool.false_and]
theorem fromB_yes {a lo hi : Int} (h : fromB a lo hi = true) : lo ≤ a ∧ a ≤ hi := by
  unfold fromB at h
  simpa using h
theorem from_t (a lo hi : Int) (h0 : lo ≤ a) (h1 : a ≤ hi) (w : World) : Calls Try.prog 23 #[.int .i64 a, .int .i64 lo, .int .i64 hi] w fun e w' => e = .returned (.bool true) ∧ Below w.heap.size w w' :=
  (lienref15_from.calls a lo hi true w (by rw [from_eq]; unfold fromB; rw [decide_eq_true h0, decide_eq_true h1]; rfl)).mono fun e w' ⟨h, d⟩ => ⟨h, d.below⟩
def plotsL (l : List S79) : List Int := l.flatMap fun p => [p.f0, p.f1]
theorem plotsL_len : ∀ l : List S79, (plotsL l).length = 2 * l.length
  | [] => rfl
  | p :: l => by
    have h := plotsL_len l
    unfold plotsL at h ⊢
    rw [List.flatMap_cons, List.length_append, h, List.length_cons]
    simp; omega
theorem rd79_D (l : List S79) (i : Nat) : rd_T79 l (i : Int) = l.getD i z79 := by unfold rd_T79; rw [Int.toNat_natCast]
theorem plots_step (l : List S79) (i : Nat) (hi : i < l.length) : plotsL (l.take (i + 1)) = plotsL (l.take i) ++ [(l.getD i z79).f0, (l.getD i z79).f1] := by
  have hD : l.getD i z79 = l[i] := by rw [List.getD_eq_getElem?_getD, List.getElem?_eq_getElem hi]; rfl
  unfold plotsL
  rw [List.take_succ_eq_append_getElem hi, List.flatMap_append, hD]
  simp
theorem Ev_plots (l : List S79) (hl : l.length ≤ 1000000) (a b : Int) : ∀ m i, m + i = l.length → Ev (fun k => lienref15_plots.l0 k (plotsL (l.take i)) (i : Int) a b l) (plotsL l) := by
  intro m
  induction m with
  | zero =>
    intro i hm
    refine Ev.step (f := fun _ => some (plotsL l)) (fun k => ?_) (Ev.now _)
    rw [lienref15_plots.l0, if_neg (by omega), List.take_of_length_le (by omega)]
  | succ m ih =>
    intro i hm
    have hs := plots_step l i (by omega)
    have hlen := plotsL_len (l.take i)
    rw [List.length_take] at hlen
    refine Ev.step (f := fun k => lienref15_plots.l0 k (plotsL (l.take (i + 1))) ((i + 1 : Nat) : Int) a b l) (fun k => ?_) (ih (i + 1) (by omega))
    rw [lienref15_plots.l0, if_pos (by omega), if_pos (by omega), rd79_D, hs, w_next _ (by omega)]
    simp only [Option.bind_some]
    rw [if_pos (by simp; omega)]
theorem plots_ev (l : List S79) (hl : l.length ≤ 1000000) (a b : Int) : Ev (fun k => lienref15_plots.f k a b l) (plotsL l) := Ev_plots l hl a b l.length 0 (by omega)
theorem plots_c (a b : Int) (A : Option Addr) (c : Nat) (l : List S79) (w : World) (hC : Kd.C k79 w A l.length l) (hc : l.length ≤ c) (hl : l.length ≤ 1000000) :
    Calls Try.prog 25 #[.agg #[.int .i64 a, .int .i64 b, .slice A l.length c]] w fun e w' => ∃ A' c', e = .returned (.slice A' (plotsL l).length c') ∧ kI.R 3 w' w.heap.size (fun _ => True) (.slice A' (plotsL l).length c') (plotsL l) ∧ Below w.heap.size w w' := by
  obtain ⟨k, hk⟩ := (plots_ev l hl a b).rounds
  refine (lienref15_plots.calls k a b A c l _ w hC hc hk).mono ?_
  rintro e w' ⟨v, rfl, hR, hB⟩
  obtain ⟨A', c', rfl⟩ := Kd.R_slice hR
  exact ⟨A', c', rfl, hR, hB⟩
theorem Ev_un1 (l : List Int) (hl : l.length ≤ 1000000) (i : Nat) (hi : i < l.length) (hn : ∃ b, Ev (fun k => lienref15_unlike.l0 k l ((i + 1 : Nat) : Int)) b) : ∀ m j, m + j = i → ∃ b, Ev (fun k => lienref15_unlike.l1 k l (i : Int) (j : Int)) b := by
  intro m
  induction m with
  | zero =>
    intro j hm
    obtain ⟨b, hb⟩ := hn
    refine ⟨b, Ev.step (f := fun k => lienref15_unlike.l0 k l ((i + 1 : Nat) : Int)) (fun k => ?_) hb⟩
    rw [lienref15_unlike.l1, if_neg (by omega), w_next _ (by omega)]
  | succ m ih =>
    intro j hm
    by_cases h : rd l (j : Int) = rd l (i : Int)
    · refine ⟨false, Ev.step (f := fun _ => some false) (fun k => ?_) (Ev.now _)⟩
      rw [lienref15_unlike.l1, if_pos (by omega), if_pos (by omega), if_pos (by omega), if_pos (by omega), if_pos (by omega), if_pos h]
    · obtain ⟨b, hb⟩ := ih (j + 1) (by omega)
      refine ⟨b, Ev.step (f := fun k => lienref15_unlike.l1 k l (i : Int) ((j + 1 : Nat) : Int)) (fun k => ?_) hb⟩
      rw [lienref15_unlike.l1, if_pos (by omega), if_pos (by omega), if_pos (by omega), if_pos (by omega), if_pos (by omega), if_neg h, w_next _ (by omega)]
theorem Ev_un (l : List Int) (hl : l.length ≤ 1000000) : ∀ m i, m + i = l.length → ∃ b, Ev (fun k => lienref15_unlike.l0 k l (i : Int)) b := by
  intro m
  induction m with
  | zero =>
    intro i hm
    refine ⟨true, Ev.step (f := fun _ => some true) (fun k => ?_) (Ev.now _)⟩
    rw [lienref15_unlike.l0, if_neg (by omega)]
  | succ m ih =>
    intro i hm
    obtain ⟨b, hb⟩ := Ev_un1 l hl i (by omega) (ih (i + 1) (by omega)) i 0 (by omega)
    refine ⟨b, Ev.step (f := fun k => lienref15_unlike.l1 k l (i : Int) 0) (fun k => ?_) hb⟩
    rw [lienref15_unlike.l0, if_pos (by omega)]
theorem un_ev (l : List Int) (hl : l.length ≤ 1000000) : ∃ b, Ev (fun k => lienref15_unlike.f k l) b := Ev_un l hl l.length 0 (by omega)
/-- are numbers unlike? some answer, at every world. -/
theorem un_c (l : List Int) (hl : l.length ≤ 1000000) : ∃ b : Bool, ∀ (A : Option Addr) (c : Nat) (w : World), kI.C w A l.length l → l.length ≤ c → Calls Try.prog 28 #[.slice A l.length c] w fun e w' => e = .returned (.bool b) ∧ Below w.heap.size w w' := by
  obtain ⟨b, hb⟩ := un_ev l hl
  obtain ⟨k, hk⟩ := hb.rounds
  exact ⟨b, fun A c w hC hc => (lienref15_unlike.calls k A c l b w hC hc hk).mono fun e w' ⟨h, d⟩ => ⟨h, d.below⟩⟩
theorem Ev_pl (l : List Int) (hl : l.length ≤ 1000000) : ∀ m i, m + i = l.length → ∃ b, Ev (fun k => lienref15_IsPlace.l0 k l (i : Int)) b := by
  intro m
  induction m with
  | zero =>
    intro i hm
    obtain ⟨b, hb⟩ := un_ev l hl
    refine ⟨b, Ev.step (f := fun k => lienref15_unlike.f k l) (fun k => ?_) hb⟩
    rw [lienref15_IsPlace.l0, if_neg (by omega)]
    cases lienref15_unlike.f k l <;> rfl
  | succ m ih =>
    intro i hm
    cases h : fromB (rd l (i : Int)) 0 510 with
    | true =>
      obtain ⟨b, hb⟩ := ih (i + 1) (by omega)
      refine ⟨b, Ev.step (f := fun k => lienref15_IsPlace.l0 k l ((i + 1 : Nat) : Int)) (fun k => ?_) hb⟩
      rw [lienref15_IsPlace.l0, if_pos (by omega), if_pos (by omega), from_eq, Option.bind_some, if_pos h, w_next _ (by omega)]
    | false =>
      refine ⟨false, Ev.step (f := fun _ => some false) (fun k => ?_) (Ev.now _)⟩
      rw [lienref15_IsPlace.l0, if_pos (by omega), if_pos (by omega), from_eq, Option.bind_some, if_neg (by rw [h]; decide)]
theorem j0_no (a b : Int) (l : List S79) : Ev (fun k => lienref15_IsPlace.j0 k true a b l) false :=
  Ev.step (f := fun _ => some false) (fun k => by rw [lienref15_IsPlace.j0, if_pos rfl]) (Ev.now _)
theorem place_ev (a b : Int) (l : List S79) : ∃ r, Ev (fun k => lienref15_IsPlace.f k a b l) r ∧ (r = true → 1 ≤ a ∧ a ≤ 2147483647 ∧ l.length ≤ 64) := by
  cases h1 : fromB a 1 2147483647 with
  | false =>
    refine ⟨false, Ev.congr (fun k => ?_) (j0_no a b l), fun h => by cases h⟩
    rw [lienref15_IsPlace.f, from_eq, Option.bind_some, if_neg (by rw [h1]; decide)]
  | true =>
    cases h2 : fromB b 1 2147483647 with
    | false =>
      refine ⟨false, Ev.congr (fun k => ?_) (j0_no a b l), fun h => by cases h⟩
      rw [lienref15_IsPlace.f, from_eq, Option.bind_some, if_pos h1, from_eq, Option.bind_some, if_neg (by rw [h2]; decide)]
    | true =>
      have hf : ∀ k, lienref15_IsPlace.f k a b l = lienref15_IsPlace.j0 k (!fromB (l.length : Int) 1 64) a b l := fun k => by
        rw [lienref15_IsPlace.f, from_eq, Option.bind_some, if_pos h1, from_eq, Option.bind_some, if_pos h2, from_eq, Option.bind_some]
      cases h3 : fromB (l.length : Int) 1 64 with
      | false =>
        refine ⟨false, Ev.congr (fun k => ?_) (j0_no a b l), fun h => by cases h⟩
        rw [hf, h3]; rfl
      | true =>
        have hl := (fromB_yes h3).2
        have ha := fromB_yes h1
        obtain ⟨r, hr⟩ := Ev_pl (plotsL l) (by rw [plotsL_len]; omega) (plotsL l).length 0 (by omega)
        refine ⟨r, Ev.step (f := fun k => (lienref15_plots.f k a b l).bind fun t => lienref15_IsPlace.l0 k t 0) (fun k => ?_) (Ev.bind (f := fun k t => lienref15_IsPlace.l0 k t 0) (plots_ev l (by omega) a b) hr), fun _ => ⟨ha.1, ha.2, by omega⟩⟩
        rw [hf, h3, lienref15_IsPlace.j0, if_neg (by decide)]
/-- what a table that may be has. -/
structure TabOK (x : S47) : Prop where
  id1 : 1 ≤ x.f0.f0
  id2 : x.f0.f0 ≤ 2147483647
  ps : x.f0.f2.length ≤ 64
  lv1 : 0 ≤ x.f2
  lv2 : x.f2 ≤ 3
  ct1 : 1 ≤ x.f3
  ct2 : x.f3 ≤ 1048576
  lohi : leS x.f4 x.f5 = true
theorem Ev_some {α : Type} {g : Nat → Option α} {r : α} (h : ∀ k, g k = some r) : Ev g r := ⟨0, fun k _ => h k⟩
theorem table_ev (x : S47) (hlo : (!(Op.bytesLess x.f5.toList x.f4.toList)) = true → leS x.f4 x.f5 = true) : ∃ r, Ev (fun k => lienref15_IsTable.f k x.f0.f0 x.f0.f1 x.f0.f2 x.f1 x.f2 x.f3 x.f4 x.f5 x.f6) r ∧ (r = true → TabOK x) := by
  obtain ⟨r, hr, hy⟩ := place_ev x.f0.f0 x.f0.f1 x.f0.f2
  cases r with
  | false =>
    refine ⟨false, Ev.bind (f := fun (k : Nat) (t : Bool) => if t = true then _ else some false) hr ?_, fun h => by cases h⟩
    exact Ev_some fun k => if_neg (by decide)
  | true =>
    have hp := hy rfl
    by_cases h : fromB x.f1 12 (wrap64 (864 * (x.f0.f2.length : Int))) = true ∧ fromB x.f2 0 3 = true ∧ fromB x.f3 1 1048576 = true ∧ fromB x.f6 1 1099511627776 = true ∧ fromB (x.f4.size : Int) 1 64 = true ∧ fromB (x.f5.size : Int) 1 64 = true
    · obtain ⟨h1, h2, h3, h4, h5, h6⟩ := h
      refine ⟨!(Op.bytesLess x.f5.toList x.f4.toList), Ev.bind (f := fun (k : Nat) (t : Bool) => if t = true then _ else some false) hr ?_, fun h => ⟨hp.1, hp.2.1, hp.2.2, (fromB_yes h2).1, (fromB_yes h2).2, (fromB_yes h3).1, (fromB_yes h3).2, hlo h⟩⟩
      refine Ev_some fun k => ?_
      rw [if_pos rfl, from_eq, Option.bind_some, if_pos h1, from_eq, Option.bind_some, if_pos h2, from_eq, Option.bind_some, if_pos h3, from_eq, Option.bind_some, if_pos h4, from_eq, Option.bind_some, if_pos h5, from_eq, Option.bind_some, if_pos h6]
    · refine ⟨false, Ev.bind (f := fun (k : Nat) (t : Bool) => if t = true then _ else some false) hr ?_, fun h => by cases h⟩
      refine Ev_some fun k => ?_
      simp only [from_eq, Option.bind_some, if_true]
      by_cases h1 : fromB x.f1 12 (wrap64 (864 * (x.f0.f2.length : Int))) = true
      · rw [if_pos h1]
        by_cases h2 : fromB x.f2 0 3 = true
        · rw [if_pos h2]
          by_cases h3 : fromB x.f3 1 1048576 = true
          · rw [if_pos h3]
            by_cases h4 : fromB x.f6 1 1099511627776 = true
            · rw [if_pos h4]
              by_cases h5 : fromB (x.f4.size : Int) 1 64 = true
              · rw [if_pos h5]
                by_cases h6 : fromB (x.f5.size : Int) 1 64 = true
                · exact absurd ⟨h1, h2, h3, h4, h5, h6⟩ h
                · rw [if_neg h6]
              · rw [if_neg h5]
            · rw [if_neg h4]
          · rw [if_neg h3]
        · rw [if_neg h2]
      · rw [if_neg h1]
end Go.Proofs.Ytgnmdhjnpbnacaa.PB
end
section
set_option linter.unusedVariables false
set_option linter.unusedSimpArgs false
namespace Go.Proofs.Ytgnmdhjnpbnacaa.PB
open Go.RowKit Go.Proofs.YtgnmdhjnpbnacaaW.PrintWords Go.Proofs.YtgnmdhjnpbnacaaW.PrintLast Go.Proofs.YtgnmdhjnpbnacaaW.PrintMore
theorem bl_tri : ∀ a b : List UInt8, Op.bytesLess a b = true ∨ a = b ∨ Op.bytesLess b a = true
  | [], [] => .inr (.inl rfl)
  | [], _ :: _ => .inl rfl
  | _ :: _, [] => .inr (.inr rfl)
  | x :: a, y :: b => by
    simp only [Op.bytesLess, Bool.or_eq_true, decide_eq_true_eq, Bool.and_eq_true, beq_iff_eq, List.cons.injEq, UInt8.lt_iff_toNat_lt]
    by_cases h : x = y
    · subst h
      rcases bl_tri a b with h | h | h
      · exact .inl (.inr ⟨rfl, h⟩)
      · exact .inr (.inl ⟨rfl, h⟩)
      · exact .inr (.inr (.inr ⟨rfl, h⟩))
    · have hn : x.toNat ≠ y.toNat := fun e => h (UInt8.toNat_inj.1 e)
      rcases Nat.lt_or_gt_of_ne hn with h | h
      · exact .inl (.inl h)
      · exact .inr (.inr (.inl h))
theorem leS_or {a b : ByteArray} : leS a b = true ↔ Op.bytesLess a.toList b.toList = true ∨ a.toList = b.toList := by
  unfold leS
  rw [Bool.or_eq_true, beq_iff_eq]
theorem leS_of_not {a b : ByteArray} (h : Op.bytesLess b.toList a.toList = false) : leS a b = true := by
  rw [leS_or]
  rcases bl_tri a.toList b.toList with h1 | h1 | h1
  · exact .inl h1
  · exact .inr h1
  · rw [h] at h1; cases h1
/-- two tables of one level beyond 0 that meet -/
def clash (x y : S47) : Bool := decide (0 < x.f2) && decide (y.f2 = x.f2) && meetB y.f4 y.f5 x
/-- a version's tables that may be -/
structure VOK (l : List S47) : Prop where
  len : l.length ≤ 128
  all : ∀ x ∈ l, TabOK x
  ids : (l.map idT).Pairwise (fun a b => a < b)
  apart : l.Pairwise (fun y x => clash x y = false)
theorem VOK_nil : VOK [] := ⟨by simp, by simp, by simp, by simp⟩
theorem VOK_snoc {l : List S47} {x : S47} (h : VOK l) (hlen : l.length < 128) (hx : TabOK x) (hid : ∀ y, l.getLast? = some y → idT y < idT x) (hap : ∀ y ∈ l, clash x y = false) : VOK (l ++ [x]) := by
  refine ⟨by simp; omega, ?_, ?_, ?_⟩
  · intro y hy
    rcases List.mem_append.1 hy with hy | hy
    · exact h.all y hy
    · rw [List.mem_singleton.1 hy]; exact hx
  · rw [List.map_append, List.pairwise_append]
    refine ⟨h.ids, by simp, ?_⟩
    intro a ha b hb
    rw [List.map_cons, List.map_nil, List.mem_singleton] at hb
    rw [hb]
    rcases List.eq_nil_or_concat l with rfl | ⟨l', y, rfl⟩
    · simp at ha
    · have hy := hid y (by simp)
      have hp := h.ids
      rw [List.concat_eq_append, List.map_append, List.pairwise_append] at hp
      rw [List.concat_eq_append, List.map_append, List.mem_append] at ha
      rcases ha with ha | ha
      · have := hp.2.2 a ha (idT y) (by simp)
        omega
      · rw [List.map_cons, List.map_nil, List.mem_singleton] at ha
        rw [ha]; exact hy
  · rw [List.pairwise_append]
    refine ⟨h.apart, by simp, ?_⟩
    intro a ha b hb
    rw [List.mem_singleton.1 hb]
    exact hap a ha
theorem take_snoc47 (l : List S47) (i : Nat) (hi : i < l.length) (x : S47) (hx : x = l.getD i z47) : l.take (i + 1) = l.take i ++ [x] := by
  rw [List.take_succ_eq_append_getElem hi, hx, List.getD_eq_getElem?_getD, List.getElem?_eq_getElem hi]
  rfl
theorem last_take (l : List S47) (i : Nat) (hi : i < l.length) (y : S47) (h : (l.take i).getLast? = some y) : 0 < i ∧ y = l.getD (i - 1) z47 := by
  rcases Nat.eq_zero_or_pos i with rfl | h0
  · simp at h
  · refine ⟨h0, ?_⟩
    rw [List.getLast?_eq_getElem?, List.length_take, List.getElem?_take] at h
    rw [Nat.min_eq_left (by omega), if_pos (by omega)] at h
    rw [List.getD_eq_getElem?_getD, h]
    rfl
theorem mem_take47 (l : List S47) (i : Nat) (hi : i ≤ l.length) (P : S47 → Prop) (h : ∀ j, j < i → P (l.getD j z47)) : ∀ y ∈ l.take i, P y := by
  intro y hy
  obtain ⟨j, hj, rfl⟩ := List.getElem_of_mem hy
  rw [List.length_take] at hj
  have h2 := h j (by omega)
  rw [List.getD_eq_getElem?_getD, List.getElem?_eq_getElem (by omega)] at h2
  rw [List.getElem_take]
  exact h2
end Go.Proofs.Ytgnmdhjnpbnacaa.PB
end
