/- Layer 6, space: what Take takes was free and is told once; what is held may be given back. -/
import Derived.Test.YtcfokcdmkhljoaaSpV
namespace Go.Proofs.Ytcfokcdmkhljoaa.Sp
open Go.RowKit Go.Proofs.YtcfokcdmkhljoaaW.PrintWords Go.Proofs.YtcfokcdmkhljoaaW.PrintLast Go.Proofs.YtcfokcdmkhljoaaW.PrintMore
open Go.Proofs.Ytcfokcdmkhljoaa.PSpaceRuns
set_option linter.unusedVariables false
set_option linter.unusedSimpArgs false

theorem set_getD (T : List Bool) (k : Nat) (b : Bool) (hk : k < T.length) (i : Nat) : (T.set k b).getD i false = if i = k then b else T.getD i false := by
  simp only [List.getD_eq_getElem?_getD, List.getElem?_set]
  by_cases e : k = i
  · subst e
    rw [if_pos rfl, if_pos hk, if_pos rfl]; rfl
  · rw [if_neg e, if_neg (fun h => e h.symm)]
theorem tkN_set (T : List Bool) (k : Nat) (hk : k < T.length) (hf : T.getD k false = false) : ∀ n, (tkN (T.set k true) n).length = (tkN T n).length + if k < n then 1 else 0
  | 0 => by simp [tkN]
  | n + 1 => by
    have ih := tkN_set T k hk hf n
    simp only [tkN, List.length_append, set_getD T k true hk]
    by_cases e : n = k
    · subst e
      have hf2 : T[n]?.getD false = false := by rw [← List.getD_eq_getElem?_getD]; exact hf
      rw [ih]
      simp [hf2]
    · rw [ih]
      simp only [if_neg e]
      by_cases h : k < n
      · have h' : k < n + 1 := by omega
        simp only [if_pos h, if_pos h']
        omega
      · have h' : ¬ k < n + 1 := by omega
        simp only [if_neg h, if_neg h']
        omega
theorem tkN_full (T : List Bool) : ∀ n, (∀ i, i < n → T.getD i false = true) → (tkN T n).length = n
  | 0, _ => rfl
  | n + 1, h => by
    rw [tkN_yes (h n (by omega))]
    simp [tkN_full T n (fun i hi => h i (by omega))]
theorem seq_append (b : Bool) (bad : Int) (p : Nat) : ∀ (ks : List Int) (k : Int) (T T1 : List Bool), seqR b bad p ks T = .ok T1 → seqR b bad p (ks ++ [k]) T = stepT b bad p T1 k
  | [], k, T, T1, h => by
    injection h with h
    subst h
    simp only [List.nil_append, seqR]
    cases stepT b bad p T k <;> rfl
  | y :: ks, k, T, T1, h => by
    simp only [List.cons_append, seqR] at h ⊢
    cases hs : stepT b bad p T y with
    | error e => rw [hs] at h; cases h
    | ok T2 => rw [hs] at h; exact seq_append b bad p ks k T2 T1 h
/-- the loop of Take, from the beginning on: it claims what it tells, and at most one plot more, which waits -/
theorem take_seq (p : Nat) (hp : p ≤ 511) (n : Int) (T0 : List Bool) (hT0 : T0.length = 511) (T' : List Bool) (out' : List S44) : ∀ (f : Nat) (T : List Bool) (first : Int) (k : Nat) (out : List S44), T.length = 511 → f + k = p + 1 → 0 < f →
    seqR true 61 p (flat out ++ tailF first) T0 = .ok T → (∀ x ∈ out, x.f0 < x.f1) → first < k → -1 ≤ first → (out.length : Int) ≤ n → (0 ≤ first → (out.length : Int) < n) → (tkN T p).length = (tkN T0 p).length + 2 * out.length + (tailF first).length →
    (∀ i, i < k → T.getD i false = true) → takeL p n f T first k out = (T', out') →
    ∃ first', seqR true 61 p (flat out' ++ tailF first') T0 = .ok T' ∧ (∀ x ∈ out', x.f0 < x.f1) ∧ (0 ≤ first' → (out'.length : Int) < n) ∧ (out'.length : Int) ≤ n ∧ (tkN T' p).length = (tkN T0 p).length + 2 * out'.length + (tailF first').length ∧ ((n : Int) ≤ out'.length ∨ (tkN T' p).length = p) := by
  intro f
  induction f with
  | zero => intro T first k out hT hf h0; omega
  | succ f ih =>
    intro T first k out hT hf h0 hs hx hfk hf1 hon hfn hcnt hall h
    rw [takeL] at h
    by_cases hkp : k < p
    · rw [if_pos hkp] at h
      by_cases hn : (out.length : Int) < n
      · rw [if_pos hn] at h
        by_cases hq : T.getD k false = true
        · rw [if_pos hq] at h
          refine ih T first (k + 1) out hT (by omega) (by omega) hs hx (by omega) hf1 hon hfn hcnt (fun i hi => ?_) h
          by_cases e : i = k
          · rw [e]; exact hq
          · exact hall i (by omega)
        · rw [if_neg hq] at h
          have hq' : T.getD k false = false := by simpa using hq
          have hset := tkN_set T k (by omega) hq' p
          rw [if_pos hkp] at hset
          have hall' : ∀ i, i < k + 1 → (T.set k true).getD i false = true := fun i hi => by
            rw [set_getD T k true (by omega)]
            by_cases e : i = k
            · rw [if_pos e]
            · rw [if_neg e]; exact hall i (by omega)
          have hstep : stepT true 61 p T (k : Int) = .ok (T.set k true) := by
            rw [stepT_ok (by omega) (by omega) (by simpa using hq)]
            simp
          have hs2 := seq_append true 61 p _ (k : Int) T0 T hs
          rw [hstep] at hs2
          by_cases hfi : first < 0
          · rw [if_pos hfi] at h
            have e : flat out ++ tailF first ++ [(k : Int)] = flat out ++ tailF (k : Int) := by
              unfold tailF
              rw [if_pos hfi, if_neg (by omega), List.append_nil]
            rw [e] at hs2
            have e2 : (tailF first).length = 0 := by unfold tailF; rw [if_pos hfi]; rfl
            have e3 : (tailF (k : Int)).length = 1 := by unfold tailF; rw [if_neg (by omega)]; rfl
            exact ih (T.set k true) k (k + 1) out (by simp [hT]) (by omega) (by omega) hs2 hx (by omega) (by omega) hon (fun _ => hn) (by omega) hall' h
          · rw [if_neg hfi] at h
            have e : flat out ++ tailF first ++ [(k : Int)] = flat (out ++ [⟨first, k⟩]) ++ tailF (-1) := by
              unfold tailF
              rw [if_neg hfi, if_pos (by decide), List.append_nil, flat_append, List.append_assoc]
              rfl
            rw [e] at hs2
            have e2 : (tailF first).length = 1 := by unfold tailF; rw [if_neg hfi]; rfl
            have e3 : (tailF (-1)).length = 0 := rfl
            have e4 : (out ++ [(⟨first, (k : Int)⟩ : S44)]).length = out.length + 1 := by simp
            refine ih (T.set k true) (-1) (k + 1) (out ++ [⟨first, k⟩]) (by simp [hT]) (by omega) (by omega) hs2 (fun x hx2 => ?_) (by omega) (by omega) (by omega) (fun h => by omega) (by omega) hall' h
            rcases List.mem_append.1 hx2 with hx2 | hx2
            · exact hx x hx2
            · rw [List.mem_singleton.1 hx2]; exact hfk
      · rw [if_neg hn] at h
        obtain ⟨rfl, rfl⟩ := Prod.mk.inj h
        exact ⟨first, hs, hx, hfn, hon, hcnt, .inl (by omega)⟩
    · rw [if_neg hkp] at h
      obtain ⟨rfl, rfl⟩ := Prod.mk.inj h
      exact ⟨first, hs, hx, hfn, hon, hcnt, .inr (tkN_full T p (fun i hi => hall i (by omega)))⟩
theorem take_claims (p : Nat) (hp : p ≤ 511) (n : Int) (h0 : 0 ≤ n) (T : List Bool) (hT : T.length = 511) (h2 : 2 * n ≤ (p : Int) - (tkN T p).length) (T' : List Bool) (out' : List S44) (h : takeL p n (p + 1) T (-1) 0 [] = (T', out')) :
    allR true 61 p out' T = .ok T' ∧ (∀ x ∈ out', x.f0 < x.f1) := by
  obtain ⟨first', h3, h4, h5, h6, h7, h8⟩ := take_seq p hp n T hT T' out' (p + 1) T (-1) 0 [] hT (by omega) (by omega) rfl (by simp) (by omega) (by omega) (by simpa using h0) (by omega) rfl (fun i hi => by omega) h
  have hle := tkN_length T p
  have hneg : first' < 0 := by
    by_cases hc : first' < 0
    · exact hc
    · exfalso
      have h9 := h5 (by omega)
      have e2 : (tailF first').length = 1 := by unfold tailF; rw [if_neg hc]; rfl
      rcases h8 with h8 | h8 <;> omega
  have e : tailF first' = [] := by unfold tailF; rw [if_pos hneg]
  rw [e, List.append_nil, ← allR_seq] at h3
  exact ⟨h3, h4⟩
/-! ### what is held -/
def flats (Hs : List (List S44)) : List Int := Hs.flatMap flat
def HInv (p : Nat) (T : List Bool) (Hs : List (List S44)) : Prop := (flats Hs).Nodup ∧ ∀ k ∈ flats Hs, 0 ≤ k ∧ k < p ∧ T.getD k.toNat false = true
theorem HInv.nil (p : Nat) (T : List Bool) : HInv p T [] := ⟨List.nodup_nil, fun k hk => by cases hk⟩
theorem seqF_ok (p : Nat) : ∀ (ks : List Int) (T : List Bool), T.length = 511 → p ≤ 511 → (∀ k ∈ ks, 0 ≤ k ∧ k < p ∧ T.getD k.toNat false = true) → ks.Nodup →
    ∃ T', seqR false 62 p ks T = .ok T' ∧ T'.length = 511 ∧ ∀ i : Nat, T'.getD i false = if (i : Int) ∈ ks then false else T.getD i false
  | [], T, hT, hp, h, hn => ⟨T, rfl, hT, fun i => by simp⟩
  | y :: ks, T, hT, hp, h, hn => by
    obtain ⟨h0, h1, hq⟩ := h y List.mem_cons_self
    obtain ⟨hny, hn2⟩ := List.nodup_cons.1 hn
    have hset := set_getD T y.toNat false (by omega)
    obtain ⟨T', a1, a2, a3⟩ := seqF_ok p ks (T.set y.toNat false) (by simp [hT]) hp (fun k hk => by
      obtain ⟨b0, b1, b2⟩ := h k (List.mem_cons_of_mem _ hk)
      refine ⟨b0, b1, ?_⟩
      rw [hset, if_neg]
      · exact b2
      · intro e
        have : k = y := by omega
        exact hny (this ▸ hk)) hn2
    refine ⟨T', ?_, a2, fun i => ?_⟩
    · simp only [seqR]
      rw [stepT_ok h0 h1 (by rw [hq]; decide)]
      exact a1
    · rw [a3 i, hset i]
      by_cases hi : (i : Int) ∈ ks
      · rw [if_pos hi, if_pos (List.mem_cons_of_mem _ hi)]
      · rw [if_neg hi]
        by_cases e : i = y.toNat
        · rw [if_pos e, if_pos]
          have : (i : Int) = y := by omega
          rw [this]; exact List.mem_cons_self
        · rw [if_neg e, if_neg]
          intro hm
          rcases List.mem_cons.1 hm with hm | hm
          · omega
          · exact hi hm
theorem flats_set : ∀ (Hs : List (List S44)) (k : Nat) (hk : k < Hs.length), (flats Hs).Perm (flat Hs[k] ++ flats (Hs.set k []))
  | x :: r, 0, hk => by
    simp only [flats, List.flatMap_cons, List.set_cons_zero, List.getElem_cons_zero, flat, List.nil_append]
    exact List.Perm.refl _
  | x :: r, k + 1, hk => by
    have ih := flats_set r k (by simpa using hk)
    simp only [flats, List.flatMap_cons, List.set_cons_succ, List.getElem_cons_succ] at ih ⊢
    refine (List.Perm.append_left _ ih).trans ?_
    rw [← List.append_assoc, ← List.append_assoc]
    exact List.Perm.append_right _ List.perm_append_comm
theorem give_held {p : Nat} (hp : p ≤ 511) {T : List Bool} (hT : T.length = 511) {Hs : List (List S44)} (h : HInv p T Hs) (k : Nat) (hk : k < Hs.length) :
    ∃ T2, allR false 62 p Hs[k] T = .ok T2 ∧ T2.length = 511 ∧ HInv p T2 (Hs.set k []) := by
  have hperm := flats_set Hs k hk
  have hnd := hperm.nodup_iff.1 h.1
  obtain ⟨n1, n2, n3⟩ := List.nodup_append.1 hnd
  obtain ⟨T2, a1, a2, a3⟩ := seqF_ok p (flat Hs[k]) T hT hp (fun y hy => h.2 y (hperm.mem_iff.2 (List.mem_append_left _ hy))) n1
  refine ⟨T2, by rw [allR_seq]; exact a1, a2, n2, fun y hy => ?_⟩
  obtain ⟨b0, b1, b2⟩ := h.2 y (hperm.mem_iff.2 (List.mem_append_right _ hy))
  refine ⟨b0, b1, ?_⟩
  rw [a3, if_neg]
  · exact b2
  · rw [Int.toNat_of_nonneg b0]
    intro hm
    exact n3 y hm y hy rfl
theorem take_held {p : Nat} (hp : p ≤ 511) {T T' : List Bool} (hT : T.length = 511) {Hs : List (List S44)} (h : HInv p T Hs) {out : List S44} (hc : allR true 61 p out T = .ok T') : HInv p T' (Hs ++ [out]) := by
  rw [allR_seq] at hc
  obtain ⟨a1, a2, a3, a4⟩ := seq_ok p (flat out) T T' hT hp hc
  have e : flats (Hs ++ [out]) = flats Hs ++ flat out := by simp [flats]
  refine ⟨?_, fun y hy => ?_⟩
  · rw [e, List.nodup_append]
    refine ⟨h.1, a2, fun y hy z hz heq => ?_⟩
    subst heq
    have := (h.2 y hy).2.2
    rw [(a1 y hz).2.2] at this
    cases this
  · rw [e] at hy
    rcases List.mem_append.1 hy with hy | hy
    · obtain ⟨b0, b1, b2⟩ := h.2 y hy
      refine ⟨b0, b1, ?_⟩
      rw [a4]
      split
      · rfl
      · exact b2
    · obtain ⟨b0, b1, _⟩ := a1 y hy
      refine ⟨b0, b1, ?_⟩
      rw [a4, if_pos (by rw [Int.toNat_of_nonneg b0]; exact hy)]
/-- one pair of a row that is claimed, or given back -/
theorem pair_ok {b : Bool} {bad : Int} {p : Nat} {x : S44} {r : List S44} {T T' : List Bool} (hT : T.length = 511) (hp : p ≤ 511) (h : allR b bad p (x :: r) T = .ok T') :
    0 ≤ x.f0 ∧ x.f0 < p ∧ 0 ≤ x.f1 ∧ x.f1 < p ∧ T.getD x.f0.toNat false = (!b) ∧ T.getD x.f1.toNat false = (!b) ∧ allR b bad p r ((T.set x.f0.toNat b).set x.f1.toNat b) = .ok T' := by
  simp only [allR, midR] at h
  by_cases a0 : 0 ≤ x.f0
  · by_cases a1 : x.f0 < p
    · by_cases a2 : T.getD x.f0.toNat false = b
      · rw [stepT_bad a0 a1 a2] at h; cases h
      · rw [stepT_ok a0 a1 a2] at h
        simp only at h
        by_cases c0 : 0 ≤ x.f1
        · by_cases c1 : x.f1 < p
          · by_cases c2 : (T.set x.f0.toNat b).getD x.f1.toNat false = b
            · rw [stepT_bad c0 c1 c2] at h; cases h
            · rw [stepT_ok c0 c1 c2] at h
              refine ⟨a0, a1, c0, c1, ?_, ?_, h⟩
              · cases b <;> simpa using a2
              · rw [set_getD T x.f0.toNat b (by omega)] at c2
                split at c2
                · exact absurd rfl c2
                · cases b <;> simpa using c2
          · rw [stepT_hi c0 c1] at h; cases h
        · rw [stepT_lo c0] at h; cases h
    · rw [stepT_hi a0 a1] at h; cases h
  · rw [stepT_lo a0] at h; cases h
end Go.Proofs.Ytcfokcdmkhljoaa.Sp
