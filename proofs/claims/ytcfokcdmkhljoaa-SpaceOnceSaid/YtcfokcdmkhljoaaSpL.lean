/- Whole structs and arrays in memory: a new variable, a load, a store, each as one step of a walk. -/
import Derived.Test.YtcfokcdmkhljoaaPSpaceRunsx0
namespace Go.Proofs.Ytcfokcdmkhljoaa.Sp
open Go.RowKit Go.Proofs.YtcfokcdmkhljoaaW.PrintWords Go.Proofs.YtcfokcdmkhljoaaW.PrintLast Go.Proofs.YtcfokcdmkhljoaaW.PrintMore
set_option linter.unusedVariables false
section
variable {P : Program} {ops : Array Oper} {rest : List Oper} {o : Oper} {a : Act} {Q : Exit → Act → World → Prop}
theorem alloc_event {W : World} (hgd : o.guard = none) {N : Tmp} (hd : o.dst = some N) {T : TypeId} {cs : Array Value} (ho : o.op = .alloc T)
    (hi : (P.info? T).map (·.zero) = some (some (.agg cs)))
    (h : ∀ g, g = W.heap.size → ∀ w1, w1.heap[g]? = some (.cells cs T (0, 0)) → Below W.heap.size W w1 → w1.heap.size = W.heap.size + 1 → wpList P ops Q rest (a.put o.dst (.pointer (some ⟨g, 0, none⟩))) w1) : wpList P ops Q (o :: rest) a W := by
  refine Kd.event_run (v := .pointer (some ⟨W.heap.size, 0, none⟩)) (w1 := W.alloc (.cells cs T (0, 0))) hgd ?_ (h _ rfl _ (blk_new W _) (below_alloc (Below.refl _ _) _) (by simp))
  obtain ⟨i, hi1, hi2⟩ := Option.map_eq_some_iff.1 hi
  unfold execOp
  simp only [ho]
  simp [Instr.alloc, zeroValue, typeInfo, hi1, hi2, newVar, newRow, Value.cells]
theorem load_agg_event {W : World} (hgd : o.guard = none) {N : Tmp} (hd : o.dst = some N) {T e : TypeId} {x : Operand} {cs : Array Value} {g : Nat} {d : TypeDesc} {n : Nat} (ho : o.op = .load T x)
    (hx : a.eval x = .pointer (some ⟨g, 0, none⟩)) (hb : W.heap[g]? = some (.cells cs e (0, 0))) (hu : P.underlying T = some d) (hd' : (match d with | .struct _ | .array _ _ => true | _ => false) = true)
    (hi : (P.info? T).map (·.size) = some n) (hn : n ≤ cs.size)
    (h : wpList P ops Q rest (a.put o.dst (.agg (cs.extract 0 n))) W) : wpList P ops Q (o :: rest) a W := by
  refine Kd.event_run (v := .agg (cs.extract 0 n)) (w1 := W) hgd ?_ h
  obtain ⟨i, hi1, hi2⟩ := Option.map_eq_some_iff.1 hi
  have hl : (loadCells ⟨g, 0, none⟩ (cs.extract 0 n).toList.length).run P W = .ok (cs.extract 0 n).toList.toArray W :=
    run_loadCells_list (P := P) W ⟨g, 0, none⟩ (cs.extract 0 n).toList (fun j v hv => by
      have hadd : (⟨g, 0, none⟩ : Addr).add j = ⟨g, j, none⟩ := by unfold Addr.add; split <;> simp_all
      rw [hadd, cell_of_row W g j cs e (0, 0) hb]
      have hv' : (cs.toList.take n)[j]? = some v := by simpa using hv
      rw [List.getElem?_take] at hv'
      split at hv'
      · simpa using hv'
      · cases hv')
  have hagg : (isAgg T).run P W = .ok true W := by
    unfold isAgg
    rw [Sem.run_bind, run_underlying hu W]
    cases d <;> simp_all
  have hlen : (cs.extract 0 n).toList.length = n := by simp; omega
  rw [hlen] at hl
  simp only [Array.toArray_toList] at hl
  unfold execOp
  simp only [ho, hx]
  simp [Instr.loadAt, Instr.sureAddr, loadVar, Sem.run_bind, hagg, sizeOf, typeInfo, hi1, hi2, hl]
theorem store_agg_event {W : World} (hgd : o.guard = none) (hN : o.dst = none) {T e : TypeId} {p x : Operand} {cs cur : Array Value} {g : Nat} (ho : o.op = .store T p x)
    (hp : a.eval p = .pointer (some ⟨g, 0, none⟩)) (hx : a.eval x = .agg cs) (hb : W.heap[g]? = some (.cells cur e (0, 0)))
    (hi : (P.info? T).map (·.size) = some cs.size) (hn : cs.size ≤ cur.size) (h1 : ∀ q ∈ cs.toList, q.oneCell' = true)
    (h : ∀ w1, w1.heap[g]? = some (.cells (cs ++ cur.extract cs.size cur.size) e (0, 0)) → W.grownBy w1 (some g) → w1.heap.size = W.heap.size → wpList P ops Q rest a w1) : wpList P ops Q (o :: rest) a W := by
  have hrun := run_store_run (P := P) (w := W) (g := g) (o := 0) T (.agg cs) cs.toList hb rfl (by simpa using hi) (by simpa using hn) h1
  obtain ⟨cur', h3, h4, h5⟩ := setCells_row cs.toList 0 W cur hb (by simpa using hn)
  obtain ⟨s1, s2, s3, s4⟩ := setCells_same g cs.toList 0 W
  have e5 : cur' = cs ++ cur.extract cs.size cur.size := by
    apply Array.ext'
    rw [h5]
    simp
    rw [List.take_of_length_le (by simp)]
  rw [e5] at h3
  refine wpList_plain hgd fun K hK => ?_
  unfold Oper.wp execOp
  simp only [ho, hp, hx, Sem.run_bind, Sem.run_pure, Result.andThen_ok, hrun]
  show K (a.put o.dst undef) _
  rw [hN]
  exact hK a _ (h _ h3 ⟨s1, s2, s3, by rw [s4]; exact Nat.le_refl _, fun k _ hk => setCells_far cs.toList _ k (fun e => hk (by simp [e]))⟩ s4)
theorem build_event {W : World} (hgd : o.guard = none) {N : Tmp} (hd : o.dst = some N) {T : TypeId} {parts : Array (Nat × Operand)} {vs : List (Nat × Value)} {v : Value} (ho : o.op = .build T parts)
    (hp : parts.toList.map (fun x => (x.1, a.eval x.2)) = vs) (hrun : (Instr.build T vs.toArray).run P W = .ok v W)
    (h : wpList P ops Q rest (a.put o.dst v) W) : wpList P ops Q (o :: rest) a W := by
  refine Kd.event_run (v := v) (w1 := W) hgd ?_ h
  subst hp
  have hrun' : (Instr.build T (parts.map (fun x => (x.1, a.eval x.2)))).run P W = .ok v W := by
    rw [← hrun, ← Array.toList_map]
  unfold execOp
  simp only [ho]
  show ((Instr.build T (parts.map (fun x => (x.1, a.eval x.2)))).bind _).run P W = _
  rw [show ∀ f : Value → Sem Next, ((Instr.build T (parts.map (fun x => (x.1, a.eval x.2)))).bind f) = ((Instr.build T (parts.map (fun x => (x.1, a.eval x.2)))) >>= f) from fun _ => rfl, Sem.run_bind, hrun']
  rfl
theorem box_agg_event {W : World} (hgd : o.guard = none) {N : Tmp} (hd : o.dst = some N) {T : TypeId} {x : Operand} {cs : Array Value} (ho : o.op = .box T x) (hx : a.eval x = .agg cs)
    (h : ∀ g, g = W.heap.size → ∀ w1, w1.heap[g]? = some (.cells cs T (0, 0)) → Below W.heap.size W w1 → w1.heap.size = W.heap.size + 1 → wpList P ops Q rest (a.put o.dst (.pointer (some ⟨g, 0, none⟩))) w1) : wpList P ops Q (o :: rest) a W := by
  refine Kd.event_run (v := .pointer (some ⟨W.heap.size, 0, none⟩)) (w1 := W.alloc (.cells cs T (0, 0))) hgd ?_ (h _ rfl _ (blk_new W _) (below_alloc (Below.refl _ _) _) (by simp))
  unfold execOp
  simp only [ho, hx]
  rfl
end
end Go.Proofs.Ytcfokcdmkhljoaa.Sp
