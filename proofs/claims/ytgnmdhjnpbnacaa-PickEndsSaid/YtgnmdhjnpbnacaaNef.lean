/- The claim by itself: plain laws and walks. -/
import Derived.Test.YtgnmdhjnpbnacaaNea
import Derived.Test.YtgnmdhjnpbnacaaNeb
import Derived.Test.YtgnmdhjnpbnacaaNec
import Derived.Test.YtgnmdhjnpbnacaaNed
import Derived.Test.YtgnmdhjnpbnacaaNee
set_option linter.unusedVariables false
set_option linter.unusedSimpArgs false
section
set_option linter.unusedVariables false
set_option linter.unusedSimpArgs false
namespace Go.Proofs.Ytgnmdhjnpbnacaa.PB
open Go.RowKit Go.Proofs.YtgnmdhjnpbnacaaW.PrintWords Go.Proofs.YtgnmdhjnpbnacaaW.PrintLast Go.Proofs.YtgnmdhjnpbnacaaW.PrintMore
def totC : List S47 → Int
  | [] => 0
  | x :: l => x.f3 + totC l
def wtL : List S47 → Int
  | [] => 0
  | x :: l => x.f3 * (3 - x.f2) + wtL l
def idM (l : List S47) : Int := l.foldl (fun m x => mx m x.f0.f0) 0
theorem totC_app : ∀ a b : List S47, totC (a ++ b) = totC a + totC b
  | [], b => by simp [totC]
  | x :: a, b => by rw [List.cons_append, totC, totC, totC_app a b]; omega
theorem wtL_app : ∀ a b : List S47, wtL (a ++ b) = wtL a + wtL b
  | [], b => by simp [wtL]
  | x :: a, b => by rw [List.cons_append, wtL, wtL, wtL_app a b]; omega
theorem totC_step (l : List S47) (i : Nat) (hi : i < l.length) (x : S47) (hx : x = l.getD i z47) : totC (l.take (i + 1)) = totC (l.take i) + x.f3 := by
  rw [take_snoc47 l i hi x hx, totC_app]; simp [totC]
theorem idM_step (l : List S47) (i : Nat) (hi : i < l.length) (x : S47) (hx : x = l.getD i z47) : idM (l.take (i + 1)) = mx (idM (l.take i)) x.f0.f0 := by
  unfold idM
  rw [take_snoc47 l i hi x hx, List.foldl_append]; rfl
theorem totC_len : ∀ l : List S47, (∀ x ∈ l, 1 ≤ x.f3) → (l.length : Int) ≤ totC l
  | [], _ => by simp [totC]
  | x :: l, h => by
    have h1 := h x (by simp)
    have h2 := totC_len l (fun y hy => h y (by simp [hy]))
    rw [totC, List.length_cons]; omega
theorem totC_nn {l : List S47} (h : ∀ x ∈ l, 1 ≤ x.f3) : 0 ≤ totC l := by have := totC_len l h; omega
theorem totC_take (l : List S47) (h : ∀ x ∈ l, 1 ≤ x.f3) (i : Nat) : 0 ≤ totC (l.take i) ∧ totC (l.take i) ≤ totC l := by
  have e := totC_app (l.take i) (l.drop i)
  rw [List.take_append_drop] at e
  have h1 := totC_nn (l := l.take i) (fun x hx => h x (List.mem_of_mem_take hx))
  have h2 := totC_nn (l := l.drop i) (fun x hx => h x (List.mem_of_mem_drop hx))
  omega
theorem tot_split (p : S47 → Bool) : ∀ l : List S47, totC l = totC (l.filter p) + totC (l.filter fun x => !p x) ∧ wtL l = wtL (l.filter p) + wtL (l.filter fun x => !p x) ∧ l.length = (l.filter p).length + (l.filter fun x => !p x).length
  | [] => by simp [totC, wtL]
  | x :: l => by
    obtain ⟨h1, h2, h3⟩ := tot_split p l
    simp only [List.filter_cons]
    cases hp : p x <;> simp [totC, wtL] <;> omega
theorem wt_nn : ∀ l : List S47, (∀ x ∈ l, 1 ≤ x.f3 ∧ x.f2 ≤ 3) → 0 ≤ wtL l
  | [], _ => by simp [wtL]
  | x :: l, h => by
    obtain ⟨h1, h2⟩ := h x (by simp)
    have h3 := wt_nn l (fun y hy => h y (by simp [hy]))
    have : 0 ≤ x.f3 * (3 - x.f2) := Int.mul_nonneg (by omega) (by omega)
    rw [wtL]; omega
/-- of the levels nn and nn + 1 alone, and of nn some -/
theorem wt_in (nn : Int) (hn : nn ≤ 2) : ∀ l : List S47, (∀ x ∈ l, 1 ≤ x.f3 ∧ (x.f2 = nn ∨ x.f2 = nn + 1)) → (2 - nn) * totC l ≤ wtL l ∧ ((∃ x ∈ l, x.f2 = nn) → (2 - nn) * totC l + 1 ≤ wtL l)
  | [], _ => by simp [wtL, totC]
  | x :: l, h => by
    obtain ⟨h1, h2⟩ := h x (by simp)
    obtain ⟨h3, h4⟩ := wt_in nn hn l (fun y hy => h y (by simp [hy]))
    rw [wtL, totC, Int.mul_add]
    rcases h2 with e | e
    · have e1 : x.f3 * (3 - x.f2) = (2 - nn) * x.f3 + x.f3 := by
        rw [e, show (3 - nn : Int) = (2 - nn) + 1 by omega, Int.mul_add, Int.mul_one, Int.mul_comm]
      exact ⟨by omega, fun _ => by omega⟩
    · have e1 : x.f3 * (3 - x.f2) = (2 - nn) * x.f3 := by
        rw [e, show (3 - (nn + 1) : Int) = 2 - nn by omega, Int.mul_comm]
      refine ⟨by omega, fun ⟨y, hy, hy2⟩ => ?_⟩
      rcases List.mem_cons.1 hy with rfl | hy
      · omega
      · have := h4 ⟨y, hy, hy2⟩; omega
theorem idM_mem : ∀ (l : List S47) (m : Int), (∀ x ∈ l, 1 ≤ idT x) → 0 ≤ m → (∀ x ∈ l, idT x ≤ l.foldl (fun m x => mx m x.f0.f0) m) ∧ m ≤ l.foldl (fun m x => mx m x.f0.f0) m ∧ (l.foldl (fun m x => mx m x.f0.f0) m = m ∨ ∃ x ∈ l, l.foldl (fun m x => mx m x.f0.f0) m = idT x)
  | [], m, _, _ => ⟨by simp, Int.le_refl _, .inl rfl⟩
  | x :: l, m, h, hm => by
    have hx : 1 ≤ idT x := h x (by simp)
    have e : mx m x.f0.f0 = m ∧ x.f0.f0 ≤ m ∨ mx m x.f0.f0 = x.f0.f0 ∧ m ≤ x.f0.f0 := by unfold mx; split <;> omega
    unfold idT at hx
    obtain ⟨h1, h2, h3⟩ := idM_mem l (mx m x.f0.f0) (fun y hy => h y (by simp [hy])) (by omega)
    rw [List.foldl_cons]
    refine ⟨fun y hy => ?_, by omega, ?_⟩
    · rcases List.mem_cons.1 hy with rfl | hy
      · unfold idT; omega
      · exact h1 y hy
    · rcases h3 with h3 | ⟨y, hy, h3⟩
      · rcases e with ⟨e, _⟩ | ⟨e, _⟩
        · exact .inl (h3.trans e)
        · exact .inr ⟨x, by simp, h3.trans e⟩
      · exact .inr ⟨y, by simp [hy], h3⟩
/-- what PickEnds' versions have -/
structure EOK (l : List S47) : Prop where
  len : l.length ≤ 130
  ne : (l.map idT).Pairwise (fun a b => a ≠ b)
  all : ∀ x ∈ l, 1 ≤ idT x ∧ idT x ≤ 2147483647 ∧ 0 ≤ x.f2 ∧ x.f2 ≤ 3 ∧ 1 ≤ x.f3
  tot : totC l ≤ 268435456
theorem EOK.okT {l : List S47} (h : EOK l) : ∀ x ∈ l, okT x := fun x hx => by have := h.all x hx; unfold PB.okT; omega
theorem totC_le (c : Int) : ∀ l : List S47, (∀ x ∈ l, x.f3 ≤ c) → totC l ≤ l.length * c
  | [], _ => by simp [totC]
  | x :: l, h => by
    have h1 := h x (by simp)
    have h2 := totC_le c l (fun y hy => h y (by simp [hy]))
    rw [totC, List.length_cons, Int.natCast_add, Int.add_mul]
    omega
theorem VOK.eok {l : List S47} (h : VOK l) : EOK l := by
  refine ⟨by have := h.len; omega, h.ne, fun x hx => ?_, ?_⟩
  · have := h.all x hx
    exact ⟨this.id1, this.id2, this.lv1, this.lv2, this.ct1⟩
  · have h1 := totC_le 1048576 l (fun x hx => (h.all x hx).ct2)
    have h2 := h.len
    have : (l.length : Int) * 1048576 ≤ 128 * 1048576 := Int.mul_le_mul_of_nonneg_right (by omega) (by omega)
    omega
/-- the tables behind a job: one or two in the place of those that it names -/
def DoneOf (L less : Int) (inn out l' : List S47) : Prop :=
  ∃ (lo hi : ByteArray), l' = out ++ [⟨⟨idM inn, 0, []⟩, 0, L + 1, mx 1 (totC inn - less), lo, hi, 0⟩] ∨
    (1 < inn.length ∧ 1 < mx 1 (totC inn - less) ∧ ∃ s2 : S47, s2 = ⟨⟨mn (inn.getD 0 z47).f0.f0 (inn.getD 1 z47).f0.f0, 0, []⟩, 0, L + 1, 1, lo, lo, 0⟩ ∧ l' = (out ++ [s2]) ++ [⟨⟨idM inn, 0, []⟩, 0, L + 1, mx 1 (totC inn - less) - 1, hi, hi, 0⟩])
theorem pair_app {R : Int → Int → Prop} {a b : List Int} (ha : a.Pairwise R) (hb : b.Pairwise R) (h : ∀ x ∈ a, ∀ y ∈ b, R x y) : (a ++ b).Pairwise R := List.pairwise_append.2 ⟨ha, hb, h⟩
theorem out_id {l : List S47} {p : S47 → Bool} (hne : (l.map idT).Pairwise (fun a b => a ≠ b)) {x y : S47} (hx : x ∈ l.filter fun x => !p x) (hy : y ∈ l.filter p) : idT x ≠ idT y := by
  intro e
  obtain ⟨a, b⟩ := List.mem_filter.1 hx
  obtain ⟨c, d⟩ := List.mem_filter.1 hy
  rw [ids_inj hne a c e, d] at b
  cases b
theorem done_law {nn less : Int} {l inn out l' : List S47} (p : S47 → Bool) (hE : EOK l) (h0 : 0 ≤ nn) (h2 : nn ≤ 2) (hl : 0 ≤ less) (hinn : inn = l.filter p) (hout : out = l.filter fun x => !p x) (hlv : ∀ x ∈ inn, x.f2 = nn ∨ x.f2 = nn + 1) (hsome : ∃ x ∈ inn, x.f2 = nn) (hD : DoneOf nn less inn out l') : EOK l' ∧ wtL l' + 1 ≤ wtL l := by
  obtain ⟨t1, t2, t3⟩ := tot_split p l
  rw [← hinn, ← hout] at t1 t2 t3
  have hin : ∀ x ∈ inn, x ∈ l := fun x hx => by rw [hinn] at hx; exact (List.mem_filter.1 hx).1
  have hou : ∀ x ∈ out, x ∈ l := fun x hx => by rw [hout] at hx; exact (List.mem_filter.1 hx).1
  have hc : ∀ x ∈ inn, 1 ≤ x.f3 := fun x hx => (hE.all x (hin x hx)).2.2.2.2
  have hco : ∀ x ∈ out, 1 ≤ x.f3 := fun x hx => (hE.all x (hou x hx)).2.2.2.2
  obtain ⟨w1, w2⟩ := wt_in nn h2 inn (fun x hx => ⟨hc x hx, hlv x hx⟩)
  have w3 := w2 hsome
  obtain ⟨xs, hxs, _⟩ := hsome
  have hlen1 : 1 ≤ inn.length := by
    rcases inn with _ | ⟨a, b⟩
    · simp at hxs
    · simp
  have hti := totC_len inn hc
  obtain ⟨i1, i2, i3⟩ := idM_mem inn 0 (fun x hx => (hE.all x (hin x hx)).1) (Int.le_refl _)
  have hid : ∃ x ∈ inn, idM inn = idT x := by
    rcases i3 with i3 | i3
    · exfalso
      have a := i1 xs hxs
      have b := (hE.all xs (hin xs hxs)).1
      omega
    · exact i3
  obtain ⟨xm, hxm, hme⟩ := hid
  have hmm := hE.all xm (hin xm hxm)
  have hne : out.map idT = out.map idT := rfl
  have hon : (out.map idT).Pairwise (fun a b => a ≠ b) := by
    rw [hout]
    exact (hE.ne.sublist ((List.filter_sublist).map idT))
  have hoi : ∀ x ∈ out, ∀ y ∈ inn, idT x ≠ idT y := fun x hx y hy => by
    rw [hout] at hx; rw [hinn] at hy; exact out_id hE.ne hx hy
  have htot := hE.tot
  have hmx : 1 ≤ mx 1 (totC inn - less) ∧ mx 1 (totC inn - less) ≤ totC inn := by unfold mx; split <;> omega
  have hmul : ∀ c : Int, c ≤ totC inn → (2 - nn) * c ≤ (2 - nn) * totC inn := fun c hc => Int.mul_le_mul_of_nonneg_left hc (by omega)
  have hlen := hE.len
  obtain ⟨lo, hi, hD⟩ := hD
  rcases hD with rfl | ⟨hl1, hc1, s2, rfl, rfl⟩
  · refine ⟨⟨by simp; omega, ?_, ?_, ?_⟩, ?_⟩
    · rw [List.map_append]
      refine pair_app hon (by simp) ?_
      intro a ha b hb
      obtain ⟨x, hx, rfl⟩ := List.mem_map.1 ha
      have hb' : b = idM inn := by simpa [idT] using hb
      rw [hb', hme]
      exact hoi x hx xm hxm
    · intro x hx
      rcases List.mem_append.1 hx with hx | hx
      · exact hE.all x (hou x hx)
      · rw [List.mem_singleton.1 hx]
        exact ⟨by show 1 ≤ idM inn; omega, by show idM inn ≤ _; omega, by show 0 ≤ nn + 1; omega, by show nn + 1 ≤ 3; omega, hmx.1⟩
    · rw [totC_app]; simp only [totC]; omega
    · rw [wtL_app]; simp only [wtL]
      have := hmul _ hmx.2
      have e : mx 1 (totC inn - less) * (3 - (nn + 1)) = (2 - nn) * mx 1 (totC inn - less) := by
        rw [Int.mul_comm]; congr 1; omega
      omega
  · have g0 : inn.getD 0 z47 ∈ inn := by rw [List.getD_eq_getElem?_getD, List.getElem?_eq_getElem (by omega)]; exact List.getElem_mem _
    have g1 : inn.getD 1 z47 ∈ inn := by rw [List.getD_eq_getElem?_getD, List.getElem?_eq_getElem hl1]; exact List.getElem_mem _
    have gne : idT (inn.getD 0 z47) ≠ idT (inn.getD 1 z47) := by
      have hp : (inn.map idT).Pairwise (fun a b => a ≠ b) := by
        rw [hinn]
        exact (hE.ne.sublist ((List.filter_sublist).map idT))
      rw [List.pairwise_iff_getElem] at hp
      have := hp 0 1 (by rw [List.length_map]; exact hlen1) (by rw [List.length_map]; exact hl1) (by omega)
      rw [List.getElem_map, List.getElem_map] at this
      rw [List.getD_eq_getElem?_getD, List.getElem?_eq_getElem hlen1, List.getD_eq_getElem?_getD, List.getElem?_eq_getElem hl1]
      exact this
    have m0 := i1 _ g0
    have m1 := i1 _ g1
    have hmn : (∃ y ∈ inn, mn (inn.getD 0 z47).f0.f0 (inn.getD 1 z47).f0.f0 = idT y) ∧ mn (inn.getD 0 z47).f0.f0 (inn.getD 1 z47).f0.f0 < idM inn := by
      unfold idT at gne m0 m1
      unfold idM mn
      split
      · exact ⟨⟨_, g1, rfl⟩, by omega⟩
      · exact ⟨⟨_, g0, rfl⟩, by omega⟩
    obtain ⟨⟨xn, hxn, hne2⟩, hlt⟩ := hmn
    have hnn := hE.all xn (hin xn hxn)
    refine ⟨⟨by simp; omega, ?_, ?_, ?_⟩, ?_⟩
    · rw [List.map_append, List.map_append]
      refine pair_app (pair_app hon (by simp) ?_) (by simp) ?_
      · intro a ha b hb
        obtain ⟨x, hx, rfl⟩ := List.mem_map.1 ha
        have hb' : b = mn (inn.getD 0 z47).f0.f0 (inn.getD 1 z47).f0.f0 := by simpa [idT] using hb
        rw [hb', hne2]
        exact hoi x hx xn hxn
      · intro a ha b hb
        have hb' : b = idM inn := by simpa [idT] using hb
        rw [hb']
        rcases List.mem_append.1 ha with ha | ha
        · obtain ⟨x, hx, rfl⟩ := List.mem_map.1 ha
          rw [hme]
          exact hoi x hx xm hxm
        · have ha' : a = mn (inn.getD 0 z47).f0.f0 (inn.getD 1 z47).f0.f0 := by simpa [idT] using ha
          rw [ha']; omega
    · intro x hx
      rcases List.mem_append.1 hx with hx | hx
      · rcases List.mem_append.1 hx with hx | hx
        · exact hE.all x (hou x hx)
        · rw [List.mem_singleton.1 hx]
          exact ⟨by show 1 ≤ mn _ _; omega, by show mn _ _ ≤ _; omega, by show 0 ≤ nn + 1; omega, by show nn + 1 ≤ 3; omega, Int.le_refl _⟩
      · rw [List.mem_singleton.1 hx]
        exact ⟨by show 1 ≤ idM inn; omega, by show idM inn ≤ _; omega, by show 0 ≤ nn + 1; omega, by show nn + 1 ≤ 3; omega, by show 1 ≤ mx 1 (totC inn - less) - 1; omega⟩
    · rw [totC_app, totC_app]; simp only [totC]; omega
    · rw [wtL_app, wtL_app]; simp only [wtL]
      have h3 := hmul _ hmx.2
      have e : (mx 1 (totC inn - less) - 1) * (3 - (nn + 1)) + 1 * (3 - (nn + 1)) = (2 - nn) * mx 1 (totC inn - less) := by
        rw [← Int.add_mul, Int.mul_comm]
        congr 1 <;> omega
      omega
theorem Ev_bound (l : List S47) (hE : EOK l) : ∀ m i, m + i = l.length → Ev (fun k => pick_Bound.l0 k (1 + wtL (l.take i)) l (l.length : Int) (i : Int)) (1 + wtL l) := by
  have hlen := hE.len
  have hub : ∀ i, 0 ≤ wtL (l.take i) ∧ wtL (l.take i) ≤ 3 * 268435456 := by
    intro i
    have hall : ∀ x ∈ l.take i, 1 ≤ x.f3 ∧ x.f2 ≤ 3 := fun x hx => by have := hE.all x (List.mem_of_mem_take hx); exact ⟨this.2.2.2.2, this.2.2.2.1⟩
    refine ⟨wt_nn _ hall, ?_⟩
    have h3 : wtL (l.take i) ≤ 3 * totC (l.take i) := by
      have gen : ∀ L : List S47, (∀ x ∈ L, 1 ≤ x.f3 ∧ 0 ≤ x.f2) → wtL L ≤ 3 * totC L := by
        intro L
        induction L with
        | nil => intro _; simp [wtL, totC]
        | cons x L ih =>
          intro h
          obtain ⟨a, b⟩ := h x (by simp)
          have := ih (fun y hy => h y (by simp [hy]))
          have e : x.f3 * (3 - x.f2) ≤ x.f3 * 3 := Int.mul_le_mul_of_nonneg_left (by omega) (by omega)
          rw [wtL, totC]; omega
      exact gen _ (fun x hx => by have := hE.all x (List.mem_of_mem_take hx); exact ⟨this.2.2.2.2, this.2.2.1⟩)
    have h4 := (totC_take l (fun x hx => (hE.all x hx).2.2.2.2) i).2
    have h5 := hE.tot
    omega
  intro m
  induction m with
  | zero =>
    intro i hm
    refine Ev.step (f := fun _ => some (1 + wtL l)) (fun k => ?_) (Ev.now _)
    rw [pick_Bound.l0, if_neg (by omega), List.take_of_length_le (by omega)]
  | succ m ih =>
    intro i hm
    have hi : i < l.length := by omega
    obtain ⟨x, hx⟩ : ∃ x, x = l.getD i z47 := ⟨_, rfl⟩
    have hxm : x ∈ l := by rw [hx, List.getD_eq_getElem?_getD, List.getElem?_eq_getElem hi]; exact List.getElem_mem _
    have hxa := hE.all x hxm
    have hxt : x.f3 ≤ 268435456 := by
      have h1 := totC_step l i hi x hx
      have h2 := (totC_take l (fun x hx => (hE.all x hx).2.2.2.2) i).1
      have h3 := (totC_take l (fun x hx => (hE.all x hx).2.2.2.2) (i + 1)).2
      have h5 := hE.tot
      omega
    have hst : wtL (l.take (i + 1)) = wtL (l.take i) + x.f3 * (3 - x.f2) := by
      rw [take_snoc47 l i hi x hx, wtL_app]; simp [wtL]
    have hu := hub i
    have hu1 := hub (i + 1)
    refine Ev.step (f := fun k => pick_Bound.l0 k (1 + wtL (l.take (i + 1))) l (l.length : Int) ((i + 1 : Nat) : Int)) (fun k => ?_) (ih (i + 1) (by omega))
    rw [pick_Bound.l0, if_pos (by omega), if_pos (by omega), if_pos (by omega), rdT_D, ← hx, if_neg (by omega), if_neg (by omega), if_neg (by omega), w_next _ (by omega)]
    have e1 : mn x.f3 1099511627776 = x.f3 := by unfold mn; split <;> omega
    have e2 : wrap64 (3 - x.f2) = 3 - x.f2 := by unfold wrap64; omega
    have hp : 0 ≤ x.f3 * (3 - x.f2) := Int.mul_nonneg (by omega) (by omega)
    obtain ⟨q, hq⟩ : ∃ q, x.f3 * (3 - x.f2) = q := ⟨_, rfl⟩
    rw [e1, e2, hq]
    rw [hq] at hst hp
    have e3 : wrap64 q = q := by unfold wrap64; omega
    have e4 : wrap64 (1 + wtL (l.take i) + q) = 1 + wtL (l.take i) + q := by unfold wrap64; omega
    have e5 : mn 1099511627776 (1 + wtL (l.take i) + q) = 1 + wtL (l.take i) + q := by unfold mn; split <;> omega
    rw [e3, e4, e5, hst, Int.add_assoc]
theorem bound_c (n s : Int) (Al : Option Addr) (cl : Nat) (A : Option Addr) (c : Nat) (l : List S47) (w : World) (hE : EOK l) (hF : Kd.F k47 w (fun _ => True) A l.length l) (hc : l.length ≤ c) :
    Calls Try.prog 9 #[.agg #[.int .i64 n, .int .i64 s, .slice Al 0 cl, .slice A l.length c]] w fun e w' => e = .returned (.int .i64 (1 + wtL l)) ∧ Below w.heap.size w w' := by
  obtain ⟨k, hk⟩ := (show Ev (fun k => pick_Bound.f k n s [] l) (1 + wtL l) from Ev_bound l hE l.length 0 (by omega)).rounds
  exact pick_Bound.calls k n s Al cl [] A c l _ w (nilC k57 w Al) (Nat.zero_le _) (Kd.F_now hF) hc hk
end Go.Proofs.Ytgnmdhjnpbnacaa.PB
end
section
set_option linter.unusedVariables false
set_option linter.unusedSimpArgs false
namespace Go.Proofs.Ytgnmdhjnpbnacaa.PB
open Go.RowKit Go.Proofs.YtgnmdhjnpbnacaaW.PrintWords Go.Proofs.YtgnmdhjnpbnacaaW.PrintLast Go.Proofs.YtgnmdhjnpbnacaaW.PrintMore
theorem mxI_run (ats : Array TypeId) (ty : TypeId) (a b : Int) (W : World) : (Builtin.max_ ats ty #[.int .i64 a, .int .i64 b]).run Try.prog W = .ok (.int .i64 (mx a b)) W := by
  simp [Builtin.max_, Builtin.max2, mx, gt_iff_lt]
theorem mnI_run (ats : Array TypeId) (ty : TypeId) (a b : Int) (W : World) : (Builtin.min_ ats ty #[.int .i64 a, .int .i64 b]).run Try.prog W = .ok (.int .i64 (mn a b)) W := by
  simp [Builtin.min_, Builtin.min2, mn]
def DonePost (P : Nat → Prop) (w : World) (n s nn less : Int) (inn out : List S47) (e : Ending) (w' : World) : Prop := ∃ (l' : List S47) (A' : Option Addr) (c' : Nat), e = .returned (.agg #[.int .i64 n, .int .i64 s, .slice none 0 0, .slice A' l'.length c']) ∧ Kd.F k47 w' (fun k => P k ∨ w.heap.size ≤ k) A' l'.length l' ∧ l'.length ≤ c' ∧ DoneOf nn less inn out l' ∧ Below w.heap.size w w'
/-- what done leans on, in each world it comes to. -/
structure DP (P : Nat → Prop) (w w13 : World) (b4 : Array Value) (Ai : Option Addr) (inn : List S47) (vo : Value) (out : List S47) (tc : Array Value) (W : World) : Prop where
  hz : w.heap.size + 3 ≤ w13.heap.size
  below : Below w.heap.size w W
  b4 : W.heap[w.heap.size]? = some (.cells b4 25 (0, 0))
  b8 : W.heap[w.heap.size + 2]? = some (.cells #[.int .i64 0, .int .i64 0, .slice none 0 0, .slice none 0 0] 25 (0, 0))
  fi : Kd.F k47 W (fun k => k < w13.heap.size) Ai inn.length inn
  no : Kd.N k47 47 W (w.heap.size + 3) (fun k => ((P k ∧ k < w.heap.size) ∨ w.heap.size + 3 ≤ k) ∧ k < w13.heap.size) vo out
  b11 : W.heap[w13.heap.size]? = some (.cells tc 47 (0, 0))
section
variable {P : Nat → Prop} {w w13 : World} {b4 : Array Value} {Ai : Option Addr} {inn : List S47} {vo : Value} {out : List S47} {tc : Array Value} {W W2 : World}
theorem DP.to (h : DP P w w13 b4 Ai inn vo out tc W) (hB : Below W.heap.size W W2) : DP P w w13 b4 Ai inn vo out tc W2 := ⟨h.hz, below_step h.below hB, blk_below h.b4 hB, blk_below h.b8 hB, Kd.F_below h.fi hB, Kd.N_below h.no hB, blk_below h.b11 hB⟩
theorem DP.drew (h : DP P w w13 b4 Ai inn vo out tc W) : DP P w w13 b4 Ai inn vo out tc W.drew := h.to (below_drew (Below.refl _ _))
theorem DP.drewN (h : DP P w w13 b4 Ai inn vo out tc W) (m : Nat) : DP P w w13 b4 Ai inn vo out tc (W.drewN m) := h.to (pw_below_drewN (Below.refl _ _) m)
theorem DP.set (h : DP P w w13 b4 Ai inn vo out tc W) (k : Nat) (u : Value) : DP P w w13 b4 Ai inn vo out (tc.setIfInBounds k u) (W.setCell ⟨w13.heap.size, k, none⟩ u) :=
  ⟨h.hz, below_set h.below (Nat.le_trans (Nat.le_add_right _ _) h.hz), blk_far h.b4 (p := ⟨w13.heap.size, k, none⟩) (by have := h.hz; show w.heap.size ≠ w13.heap.size; omega) u, blk_far h.b8 (p := ⟨w13.heap.size, k, none⟩) (by have := h.hz; show w.heap.size + 2 ≠ w13.heap.size; omega) u, Kd.F_far h.fi (p := ⟨w13.heap.size, k, none⟩) (fun j hj => Nat.ne_of_lt hj) u, Kd.N_far h.no (p := ⟨w13.heap.size, k, none⟩) (fun j hj => Nat.ne_of_lt hj.2) u, blk_set h.b11 k u⟩
end
/-- what the end of done leans on. -/
structure EP (P : Nat → Prop) (w : World) (n s : Int) (g11 g13 g14 : Nat) (b11 b14 : Array Value) (vt : Value) (lst : List S47) (W : World) : Prop where
  n1 : g11 ≠ g13
  n2 : g14 ≠ g13
  n8 : w.heap.size + 3 ≤ g11 ∧ w.heap.size + 3 ≤ g13 ∧ w.heap.size + 3 ≤ g14
  below : Below w.heap.size w W
  b8 : W.heap[w.heap.size + 2]? = some (.cells #[.int .i64 0, .int .i64 0, .slice none 0 0, .slice none 0 0] 25 (0, 0))
  b11 : W.heap[g11]? = some (.cells b11 47 (0, 0))
  b14 : W.heap[g14]? = some (.cells b14 47 (0, 0))
  b13 : W.heap[g13]? = some (.cells #[.int .i64 n, .int .i64 s, .slice none 0 0, vt] 25 (0, 0))
  no : Kd.N k47 47 W w.heap.size (fun k => ((P k ∧ k < w.heap.size) ∨ w.heap.size + 3 ≤ k) ∧ k ≠ g11 ∧ k ≠ g13 ∧ k ≠ g14) vt lst
section
variable {P : Nat → Prop} {w : World} {n s : Int} {g11 g13 g14 : Nat} {b11 b14 : Array Value} {vt : Value} {lst : List S47} {W W2 : World}
theorem EP.to (h : EP P w n s g11 g13 g14 b11 b14 vt lst W) (hB : Below W.heap.size W W2) : EP P w n s g11 g13 g14 b11 b14 vt lst W2 := ⟨h.n1, h.n2, h.n8, below_step h.below hB, blk_below h.b8 hB, blk_below h.b11 hB, blk_below h.b14 hB, blk_below h.b13 hB, Kd.N_below h.no hB⟩
theorem EP.fresh (h : EP P w n s g11 g13 g14 b11 b14 vt lst W) (k : Nat) (hk : W.heap.size ≤ k) : ((P k ∧ k < w.heap.size) ∨ w.heap.size + 3 ≤ k) ∧ k ≠ g11 ∧ k ≠ g13 ∧ k ≠ g14 := by
  have h1 := blk_lt h.b11
  have h2 := blk_lt h.b13
  have h3 := blk_lt h.b14
  have h4 := h.n8
  exact ⟨.inr (by omega), by omega, by omega, by omega⟩
theorem EP.put11 (h : EP P w n s g11 g13 g14 b11 b14 vt lst W) (hn : g14 ≠ g11) (k : Nat) (u : Value) : EP P w n s g11 g13 g14 (b11.setIfInBounds k u) b14 vt lst (W.setCell ⟨g11, k, none⟩ u) :=
  ⟨h.n1, h.n2, h.n8, below_set h.below (Nat.le_trans (Nat.le_add_right _ _) h.n8.1), blk_far h.b8 (p := ⟨g11, k, none⟩) (by have := h.n8; show w.heap.size + 2 ≠ g11; omega) u, blk_set h.b11 k u, blk_far h.b14 (p := ⟨g11, k, none⟩) hn u, blk_far h.b13 (p := ⟨g11, k, none⟩) h.n1.symm u, Kd.N_far h.no (p := ⟨g11, k, none⟩) (fun j hj => hj.2.1) u⟩
theorem EP.new14 (h : EP P w n s g11 g13 g11 b11 b11 vt lst W) (cs : Array Value) : EP P w n s g11 g13 W.heap.size b11 cs vt lst (W.alloc (.cells cs 47)) := by
  have h1 := blk_lt h.b11
  have h2 := blk_lt h.b13
  exact ⟨h.n1, by omega, ⟨h.n8.1, h.n8.2.1, by have := h.n8.1; omega⟩, below_alloc h.below _, blk_alloc h.b8 _, blk_alloc h.b11 _, blk_new W _, blk_alloc h.b13 _, Kd.N_alloc (Kd.N_mono (Kd.N_bound h.no) (fun k hk => ⟨hk.1.1, hk.1.2.1, hk.1.2.2.1, by have := hk.2; omega⟩)) _⟩
theorem EP.put14 (h : EP P w n s g11 g13 g14 b11 b14 vt lst W) (hn : g11 ≠ g14) (k : Nat) (u : Value) : EP P w n s g11 g13 g14 b11 (b14.setIfInBounds k u) vt lst (W.setCell ⟨g14, k, none⟩ u) :=
  ⟨h.n1, h.n2, h.n8, below_set h.below (Nat.le_trans (Nat.le_add_right _ _) h.n8.2.2), blk_far h.b8 (p := ⟨g14, k, none⟩) (by have := h.n8; show w.heap.size + 2 ≠ g14; omega) u, blk_far h.b11 (p := ⟨g14, k, none⟩) hn u, blk_set h.b14 k u, blk_far h.b13 (p := ⟨g14, k, none⟩) h.n2.symm u, Kd.N_far h.no (p := ⟨g14, k, none⟩) (fun j hj => hj.2.2.2) u⟩
theorem EP.app (h : EP P w n s g11 g13 g14 b11 b14 vt lst W) {v9 : Value} {w9 : World} {l9 : List S47} (hno : Kd.N k47 47 w9 w.heap.size (fun k => ((P k ∧ k < w.heap.size) ∨ w.heap.size + 3 ≤ k) ∧ k ≠ g11 ∧ k ≠ g13 ∧ k ≠ g14) v9 l9) (hb : Below w.heap.size w w9) (hg : W.grownBy w9 vt.ownBlock) : EP P w n s g11 g13 g14 b11 b14 v9 l9 (w9.setCell ⟨g13, 3, none⟩ v9) :=
  ⟨h.n1, h.n2, h.n8, below_set hb (Nat.le_trans (Nat.le_add_right _ _) h.n8.2.1), blk_far ((hg.block _ (blk_lt h.b8) (Kd.N_ne h.no h.b8 (by decide))).trans h.b8) (p := ⟨g13, 3, none⟩) (by have := h.n8; show w.heap.size + 2 ≠ g13; omega) v9, blk_far ((hg.block _ (blk_lt h.b11) (Kd.N_away h.no (fun k hk => hk.2.1))).trans h.b11) (p := ⟨g13, 3, none⟩) h.n1 v9, blk_far ((hg.block _ (blk_lt h.b14) (Kd.N_away h.no (fun k hk => hk.2.2.2))).trans h.b14) (p := ⟨g13, 3, none⟩) h.n2 v9, blk_set ((hg.block _ (blk_lt h.b13) (Kd.N_ne h.no h.b13 (by decide))).trans h.b13) 3 v9, Kd.N_far hno (p := ⟨g13, 3, none⟩) (fun k hk => hk.2.2.1) v9⟩
theorem EP.b13g (h : EP P w n s g11 g13 g14 b11 b14 vt lst W) {w9 : World} (hg : W.grownBy w9 vt.ownBlock) : w9.heap[g13]? = some (.cells #[.int .i64 n, .int .i64 s, .slice none 0 0, vt] 25 (0, 0)) := (hg.block _ (blk_lt h.b13) (Kd.N_ne h.no h.b13 (by decide))).trans h.b13
end
theorem end12 {R : Ending → World → Prop} {W : World} {a : Act} {g : Nat} {cs : Array Value} (hblk : W.heap[g]? = some (.cells cs 25 (0, 0))) (hs : cs.size = 4) (h2 : a.tmps.getD 8 undef = .pointer (some ⟨g, 0, none⟩))
    (hpost : R (.returned (.agg cs)) W) (hd : a.defers = [] := by rfl) : bodyPost Try.prog Try.f12 R Exit.ret a W :=
  bodyPost_ret (v := .agg cs) (results_single (r := .cell 8 25) rfl (.cell g 25 cs (0, 0) _ h2 hblk Try.underlying25 rfl (by rw [size25, hs]) .nil)) hd hpost
theorem done_end {P : Nat → Prop} {w : World} {n s nn less : Int} {inn out l' : List S47} {g11 g13 g14 : Nat} {b11 b14 : Array Value} {A' : Option Addr} {c' : Nat} {W W2 : World} (h : EP P w n s g11 g13 g14 b11 b14 (.slice A' l'.length c') l' W) (hg : W.grownBy W2 (some (w.heap.size + 2))) (hD : DoneOf nn less inn out l') : DonePost P w n s nn less inn out (.returned (.agg #[.int .i64 n, .int .i64 s, .slice none 0 0, .slice A' l'.length c'])) W2 :=
  ⟨l', A', c', rfl, Kd.F_mono (Kd.F_grown (Kd.N_F h.no) hg (fun k hk e => by have e2 := Option.some.inj e; have := hk.1; omega)) (fun k hk => by rcases hk.1 with h1 | h1; exact .inl h1.1; exact .inr (by omega)), (Kd.N_reads' h.no).2.1, hD, grownB h.below hg (by omega)⟩
set_option maxHeartbeats 16000000 in
set_option maxRecDepth 100000 in
theorem done_c (P : Nat → Prop) (n s nn less : Int) (two : Bool) (Al : Option Addr) (cl : Nat) (A : Option Addr) (c : Nat) (l : List S47) (A1 : Option Addr) (c1 : Nat) (a : List Int) (A2 : Option Addr) (c2 : Nat) (b : List Int) (inn out : List S47) (hinn : l.filter (inJ a b) = inn) (hout : l.filter (outJ a b) = out) (w : World) (hF : Kd.F k47 w P A l.length l) (hc : l.length ≤ c) (hl : l.length ≤ 200) (hC1 : kI.C w A1 a.length a) (hc1 : a.length ≤ c1) (hl1 : a.length ≤ 1000000) (hC2 : kI.C w A2 b.length b) (hc2 : b.length ≤ c2) (hl2 : b.length ≤ 1000000) (hn0 : 0 ≤ nn) (hn2 : nn ≤ 2) (hs0 : 0 ≤ less) (hs3 : less ≤ 3) (hcnt : ∀ x ∈ l, 1 ≤ x.f3) (htot : totC inn ≤ 268435456) :
    Calls Try.prog 12 #[.agg #[.int .i64 n, .int .i64 s, .slice Al 0 cl, .slice A l.length c], .agg #[.int .i64 nn, .slice A1 a.length c1, .slice A2 b.length c2], .bool two, .int .i64 less] w (DonePost P w n s nn less inn out) := by
  have HF := Aside0.mk (Kd.F_alloc (Kd.F_alloc (Kd.F_alloc (Kd.F_bound hF) (.cells #[.int .i64 n, .int .i64 s, .slice Al 0 cl, .slice A l.length c] 25)) (.cells #[.int .i64 nn, .slice A1 a.length c1, .slice A2 b.length c2] 34)) (.cells #[.int .i64 0, .int .i64 0, .slice none 0 0, .slice none 0 0] 25))
  have HBI := Aside0.mk (show ∀ x ∈ inn, 1 ≤ x.f3 from fun x hx => hcnt x (by rw [← hinn] at hx; exact (List.mem_filter.1 hx).1))
  have HINL := Aside0.mk (show inn.length ≤ 200 from by rw [← hinn]; exact Nat.le_trans (List.length_filter_le _ _) hl)
  have HOUL := Aside0.mk (show out.length ≤ 200 from by rw [← hout]; exact Nat.le_trans (List.length_filter_le _ _) hl)
  have HBA := Aside0.mk (below_alloc (below_alloc (below_alloc (Below.refl w.heap.size w) (.cells #[.int .i64 n, .int .i64 s, .slice Al 0 cl, .slice A l.length c] 25)) (.cells #[.int .i64 nn, .slice A1 a.length c1, .slice A2 b.length c2] 34)) (.cells #[.int .i64 0, .int .i64 0, .slice none 0 0, .slice none 0 0] 25))
  have HSZ := Aside0.mk (show (((w.alloc (.cells #[.int .i64 n, .int .i64 s, .slice Al 0 cl, .slice A l.length c] 25)).alloc (.cells #[.int .i64 nn, .slice A1 a.length c1, .slice A2 b.length c2] 34)).alloc (.cells #[.int .i64 0, .int .i64 0, .slice none 0 0, .slice none 0 0] 25)).heap.size = w.heap.size + 3 from by simp)
  have HG4 := Aside0.mk (blk_alloc (blk_alloc (blk_new w (.cells #[.int .i64 n, .int .i64 s, .slice Al 0 cl, .slice A l.length c] 25)) (.cells #[.int .i64 nn, .slice A1 a.length c1, .slice A2 b.length c2] 34)) (.cells #[.int .i64 0, .int .i64 0, .slice none 0 0, .slice none 0 0] 25))
  have HG5 := Aside0.mk (blk_alloc (show ((w.alloc (.cells #[.int .i64 n, .int .i64 s, .slice Al 0 cl, .slice A l.length c] 25)).alloc (.cells #[.int .i64 nn, .slice A1 a.length c1, .slice A2 b.length c2] 34)).heap[w.heap.size + 1]? = some (.cells #[.int .i64 nn, .slice A1 a.length c1, .slice A2 b.length c2] 34 (0, 0)) from by have h := blk_new (w.alloc (.cells #[.int .i64 n, .int .i64 s, .slice Al 0 cl, .slice A l.length c] 25)) (.cells #[.int .i64 nn, .slice A1 a.length c1, .slice A2 b.length c2] 34); rwa [show (w.alloc (.cells #[.int .i64 n, .int .i64 s, .slice Al 0 cl, .slice A l.length c] 25)).heap.size = w.heap.size + 1 from by simp] at h) (.cells #[.int .i64 0, .int .i64 0, .slice none 0 0, .slice none 0 0] 25))
  have HG8 := Aside0.mk (show (((w.alloc (.cells #[.int .i64 n, .int .i64 s, .slice Al 0 cl, .slice A l.length c] 25)).alloc (.cells #[.int .i64 nn, .slice A1 a.length c1, .slice A2 b.length c2] 34)).alloc (.cells #[.int .i64 0, .int .i64 0, .slice none 0 0, .slice none 0 0] 25)).heap[w.heap.size + 2]? = some (.cells #[.int .i64 0, .int .i64 0, .slice none 0 0, .slice none 0 0] 25 (0, 0)) from by have h := blk_new ((w.alloc (.cells #[.int .i64 n, .int .i64 s, .slice Al 0 cl, .slice A l.length c] 25)).alloc (.cells #[.int .i64 nn, .slice A1 a.length c1, .slice A2 b.length c2] 34)) (.cells #[.int .i64 0, .int .i64 0, .slice none 0 0, .slice none 0 0] 25); rwa [show ((w.alloc (.cells #[.int .i64 n, .int .i64 s, .slice Al 0 cl, .slice A l.length c] 25)).alloc (.cells #[.int .i64 nn, .slice A1 a.length c1, .slice A2 b.length c2] 34)).heap.size = w.heap.size + 2 from by simp] at h)
  have HC1 := Aside0.mk (Kd.C_below hC1 HBA.out)
  have HC2 := Aside0.mk (Kd.C_below hC2 HBA.out)
  have HTOT := Aside0.mk htot
  have HINN := Aside0.mk hinn
  have HOUT := Aside0.mk hout
  clear hF hC1 hC2 htot hcnt hinn hout
  go_enter Try.func12, Try.ntmps12
  go_wp2_with (first | (go_at_call 13; with_reducible refine (named_p (fun k => P k ∧ k < w.heap.size) n s nn (.slice Al 0 cl) A c l A1 c1 a A2 c2 b _ HF.out hc hl HC1.out hc1 hl1 HC2.out hc2 hl2).mono ?_; (rw [HINN.out, HOUT.out, HSZ.out]); rintro e w13 ⟨A7, c7, A8, c8, rfl, hN7, hN8, hB13⟩; have HB13 := Aside0.mk (below_step HBA.out (by rw [HSZ.out]; exact hB13)); have HZ13 := Aside0.mk hB13.size; have HN7 := Aside0.mk hN7; have HN8 := Aside0.mk hN8; have hB13' := Aside0.mk (show Below (((w.alloc (.cells #[.int .i64 n, .int .i64 s, .slice Al 0 cl, .slice A l.length c] 25)).alloc (.cells #[.int .i64 nn, .slice A1 a.length c1, .slice A2 b.length c2] 34)).alloc (.cells #[.int .i64 0, .int .i64 0, .slice none 0 0, .slice none 0 0] 25)).heap.size (((w.alloc (.cells #[.int .i64 n, .int .i64 s, .slice Al 0 cl, .slice A l.length c] 25)).alloc (.cells #[.int .i64 nn, .slice A1 a.length c1, .slice A2 b.length c2] 34)).alloc (.cells #[.int .i64 0, .int .i64 0, .slice none 0 0, .slice none 0 0] 25)) w13 from by rw [HSZ.out]; exact hB13); have HG413 := Aside0.mk (blk_below HG4.out hB13'.out); have HG513 := Aside0.mk (blk_below HG5.out hB13'.out); have HG813 := Aside0.mk (blk_below HG8.out hB13'.out); have j0 := blk_cell HG513.out 0; have d0 : ∀ o, (w13.alloc o).cell? ⟨w.heap.size, 0, none⟩ = some (.int .i64 n) := (fun o => (blk_cell (blk_alloc HG413.out o) 0).trans rfl); clear hN7 hN8 hB13))
  have HZ13' := Aside0.mk (show w.heap.size + 3 ≤ w13.heap.size from by have h := HZ13.out; rwa [HSZ.out] at h)
  have HDP := Aside0.mk (show DP P w w13 #[.int .i64 n, .int .i64 s, .slice Al 0 cl, .slice A l.length c] A7 inn (.slice A8 out.length c8) out #[.int .i64 (0), .int .i64 0, .slice none 0 0, .int .i64 0, .int .i64 (nn + 1), .int .i64 (0), .string (⟨#[]⟩), .string (⟨#[]⟩), .int .i64 0] (w13.alloc (.cells #[.int .i64 (0), .int .i64 0, .slice none 0 0, .int .i64 0, .int .i64 (nn + 1), .int .i64 (0), .string (⟨#[]⟩), .string (⟨#[]⟩), .int .i64 0] 47)) from ⟨HZ13'.out, below_alloc HB13.out _, blk_alloc HG413.out _, blk_alloc HG813.out _, Kd.F_alloc (Kd.F_mono (Kd.F_bound (Kd.N_F HN7.out)) (fun k hk => hk.2)) _, Kd.N_alloc (Kd.N_mono (Kd.N_bound HN8.out) (fun k hk => ⟨hk.1.1, hk.2⟩)) _, blk_new w13 _⟩)
  have HC7 := Aside0.mk (Kd.N_reads' HN7.out).2.1
  have HC8 := Aside0.mk (Kd.N_reads' HN8.out).2.1
  clear HF HBA HSZ HG4 HG5 HG8 HC1 HC2 HN7 HN8 hB13' HG413 HG513 HG813 j0 d0
  go_loopg [12] (inn.length + 1) (fun kq v12 wr => ∃ (i : Nat) (lo hi : ByteArray), v12 = .int .i64 i ∧ Aside0 (i ≤ inn.length) ∧ Aside0 (inn.length - i < kq) ∧ Aside0 (DP P w w13 #[.int .i64 n, .int .i64 s, .slice Al 0 cl, .slice A l.length c] A7 inn (.slice A8 out.length c8) out #[.int .i64 (idM (inn.take i)), .int .i64 0, .slice none 0 0, .int .i64 0, .int .i64 (nn + 1), .int .i64 (totC (inn.take i)), .string (lo), .string (hi), .int .i64 0] wr))
  case atStart => exact ⟨0, ⟨#[]⟩, ⟨#[]⟩, rfl, ⟨Nat.zero_le _⟩, ⟨by omega⟩, HDP⟩
  case round =>
    clear HDP
    obtain ⟨i, lo, hi, rfl, HI, HK, HD⟩ := hrel
    have hil := HI.out
    by_cases hlt : i < inn.length
    · have ht : decide (i < inn.length) = true := decide_eq_true hlt
      have ht2 : decide ((i : Int) < (inn.length : Int)) = true := decide_eq_true (by omega)
      obtain ⟨x, hx⟩ : ∃ x, x = inn.getD i z47 := ⟨_, rfl⟩
      have HX := Aside0.mk hx
      have HLT := Aside0.mk hlt
      have hi0 : (0 : Int) ≤ (i : Int) := by omega
      have hi1 : (i : Int) < (inn.length : Int) := by omega
      have hi2 : (i : Int) ≤ 200 := by have := HINL.out; omega
      have HTS := Aside0.mk (totC_step inn i hlt x hx)
      have HIS := Aside0.mk (idM_step inn i hlt x hx)
      obtain ⟨cnt, hcn⟩ : ∃ z, totC (inn.take i) = z := ⟨_, rfl⟩
      obtain ⟨idm, hidm⟩ : ∃ z, idM (inn.take i) = z := ⟨_, rfl⟩
      have HB1 := Aside0.mk (totC_take inn HBI.out i)
      have HB2 := Aside0.mk (totC_take inn HBI.out (i + 1))
      rw [hcn] at HTS HD HB1
      rw [hidm] at HIS HD
      rw [HTS.out] at HB2
      have p1 : 0 ≤ cnt := HB1.out.1
      have p2 : cnt ≤ 268435456 := Int.le_trans HB1.out.2 HTOT.out
      have p3 : 0 ≤ cnt + x.f3 := HB2.out.1
      have p4 : cnt + x.f3 ≤ 268435456 := Int.le_trans HB2.out.2 HTOT.out
      have HP5 := Aside0.mk (show IntKind.i64.wrap (cnt + x.f3) = cnt + x.f3 from IntWalk.i64_in _ (by omega))
      clear hx hcn hidm
      obtain ⟨ad, B7, e7, hA7, z0, z1, z2, z3, z4, z5, z6, z7, z8, zl, zF⟩ := at_F47 HD.out.fi i hlt x HX.out
      subst hA7
      clear z0 z1 z2 z3 z4 z5 z6 z7 z8 zl zF
      go_upto_region 6 with fail
      go_cut [42] (fun v42 wc => ∃ b : Bool, v42 = .bool b ∧ Aside0 (DP P w w13 #[.int .i64 n, .int .i64 s, .slice Al 0 cl, .slice A l.length c] (some ad) inn (.slice A8 out.length c8) out #[.int .i64 (idm), .int .i64 0, .slice none 0 0, .int .i64 0, .int .i64 (nn + 1), .int .i64 (cnt), .string (lo), .string (hi), .int .i64 0] wc))
      case first =>
        have e0 := blk_cell HD.out.b11 0
        have e1 := blk_cell HD.out.b11 1
        have e2 := blk_cell HD.out.b11 2
        have e3 := blk_cell HD.out.b11 3
        have e4 := blk_cell HD.out.b11 4
        have e5 := blk_cell HD.out.b11 5
        have e6 := blk_cell HD.out.b11 6
        have e7 := blk_cell HD.out.b11 7
        have e8 := blk_cell HD.out.b11 8
        have f0 := blk_frozen HD.out.b11 0
        have f3 := blk_frozen HD.out.b11 3
        have f4 := blk_frozen HD.out.b11 4
        have f5 := blk_frozen HD.out.b11 5
        have f6 := blk_frozen HD.out.b11 6
        have f7 := blk_frozen HD.out.b11 7
        obtain ⟨ad', B7, e7', he, x0, x1, x2, x3, x4, x5, x6, x7, x8, hxl, hxF⟩ := at_F47 HD.out.fi i HLT.out x HX.out
        injection he with he
        subst he
        clear hxl hxF
        by_cases hz : i = 0
        · have tz : ((i : Int) == 0) = true := by rw [beq_iff_eq]; omega
          have tz2 : (i == 0) = true := beq_iff_eq.2 hz
          clear hz
          go_quiet (fail)
          go_wp2_with fail
          go_meet
          case rel => exact ⟨_, rfl, ⟨DP.drewN HD.out _⟩⟩
        · have tz : ((i : Int) == 0) = false := by rw [beq_eq_false_iff_ne]; omega
          have tz2 : (i == 0) = false := beq_eq_false_iff_ne.2 hz
          clear hz
          go_quiet (fail)
          go_wp2_with fail
          go_meet
          case rel => exact ⟨_, rfl, ⟨DP.drewN HD.out _⟩⟩
      case rest =>
        clear HD
        obtain ⟨b, rfl, HD⟩ := hcut
        go_upto_if 42 with fail
        go_cut [] (fun wc => ∃ lo : ByteArray, Aside0 (DP P w w13 #[.int .i64 n, .int .i64 s, .slice Al 0 cl, .slice A l.length c] (some ad) inn (.slice A8 out.length c8) out #[.int .i64 (idm), .int .i64 0, .slice none 0 0, .int .i64 0, .int .i64 (nn + 1), .int .i64 (cnt), .string (lo), .string (hi), .int .i64 0] wc))
        case first =>
          have e0 := blk_cell HD.out.b11 0
          have e1 := blk_cell HD.out.b11 1
          have e2 := blk_cell HD.out.b11 2
          have e3 := blk_cell HD.out.b11 3
          have e4 := blk_cell HD.out.b11 4
          have e5 := blk_cell HD.out.b11 5
          have e6 := blk_cell HD.out.b11 6
          have e7 := blk_cell HD.out.b11 7
          have e8 := blk_cell HD.out.b11 8
          have f0 := blk_frozen HD.out.b11 0
          have f3 := blk_frozen HD.out.b11 3
          have f4 := blk_frozen HD.out.b11 4
          have f5 := blk_frozen HD.out.b11 5
          have f6 := blk_frozen HD.out.b11 6
          have f7 := blk_frozen HD.out.b11 7
          obtain ⟨ad', B7, e7', he, x0, x1, x2, x3, x4, x5, x6, x7, x8, hxl, hxF⟩ := at_F47 HD.out.fi i HLT.out x HX.out
          injection he with he
          subst he
          clear hxl hxF
          cases b with
          | true =>
            go_wp2_with fail
            go_meet
            case rel => exact ⟨_, ⟨DP.set HD.out 6 _⟩⟩
          | false =>
            go_wp2_with fail
            go_meet
            case rel => exact ⟨_, HD⟩
        case rest =>
          clear HD
          obtain ⟨lo, HD⟩ := hcut
          go_upto_region 8 with fail
          go_cut [60] (fun v60 wc => ∃ b : Bool, v60 = .bool b ∧ Aside0 (DP P w w13 #[.int .i64 n, .int .i64 s, .slice Al 0 cl, .slice A l.length c] (some ad) inn (.slice A8 out.length c8) out #[.int .i64 (idm), .int .i64 0, .slice none 0 0, .int .i64 0, .int .i64 (nn + 1), .int .i64 (cnt), .string (lo), .string (hi), .int .i64 0] wc))
          case first =>
            have e0 := blk_cell HD.out.b11 0
            have e1 := blk_cell HD.out.b11 1
            have e2 := blk_cell HD.out.b11 2
            have e3 := blk_cell HD.out.b11 3
            have e4 := blk_cell HD.out.b11 4
            have e5 := blk_cell HD.out.b11 5
            have e6 := blk_cell HD.out.b11 6
            have e7 := blk_cell HD.out.b11 7
            have e8 := blk_cell HD.out.b11 8
            have f0 := blk_frozen HD.out.b11 0
            have f3 := blk_frozen HD.out.b11 3
            have f4 := blk_frozen HD.out.b11 4
            have f5 := blk_frozen HD.out.b11 5
            have f6 := blk_frozen HD.out.b11 6
            have f7 := blk_frozen HD.out.b11 7
            obtain ⟨ad', B7, e7', he, x0, x1, x2, x3, x4, x5, x6, x7, x8, hxl, hxF⟩ := at_F47 HD.out.fi i HLT.out x HX.out
            injection he with he
            subst he
            clear hxl hxF
            by_cases hz : i = 0
            · have tz : ((i : Int) == 0) = true := by rw [beq_iff_eq]; omega
              have tz2 : (i == 0) = true := beq_iff_eq.2 hz
              clear hz
              go_quiet (fail)
              go_wp2_with fail
              go_meet
              case rel => exact ⟨_, rfl, ⟨DP.drewN HD.out _⟩⟩
            · have tz : ((i : Int) == 0) = false := by rw [beq_eq_false_iff_ne]; omega
              have tz2 : (i == 0) = false := beq_eq_false_iff_ne.2 hz
              clear hz
              go_quiet (fail)
              go_wp2_with fail
              go_meet
              case rel => exact ⟨_, rfl, ⟨DP.drewN HD.out _⟩⟩
          case rest =>
            clear HD
            obtain ⟨b, rfl, HD⟩ := hcut
            go_upto_if 60 with fail
            go_cut [] (fun wc => ∃ hi : ByteArray, Aside0 (DP P w w13 #[.int .i64 n, .int .i64 s, .slice Al 0 cl, .slice A l.length c] (some ad) inn (.slice A8 out.length c8) out #[.int .i64 (idm), .int .i64 0, .slice none 0 0, .int .i64 0, .int .i64 (nn + 1), .int .i64 (cnt), .string (lo), .string (hi), .int .i64 0] wc))
            case first =>
              have e0 := blk_cell HD.out.b11 0
              have e1 := blk_cell HD.out.b11 1
              have e2 := blk_cell HD.out.b11 2
              have e3 := blk_cell HD.out.b11 3
              have e4 := blk_cell HD.out.b11 4
              have e5 := blk_cell HD.out.b11 5
              have e6 := blk_cell HD.out.b11 6
              have e7 := blk_cell HD.out.b11 7
              have e8 := blk_cell HD.out.b11 8
              have f0 := blk_frozen HD.out.b11 0
              have f3 := blk_frozen HD.out.b11 3
              have f4 := blk_frozen HD.out.b11 4
              have f5 := blk_frozen HD.out.b11 5
              have f6 := blk_frozen HD.out.b11 6
              have f7 := blk_frozen HD.out.b11 7
              obtain ⟨ad', B7, e7', he, x0, x1, x2, x3, x4, x5, x6, x7, x8, hxl, hxF⟩ := at_F47 HD.out.fi i HLT.out x HX.out
              injection he with he
              subst he
              clear hxl hxF
              cases b with
              | true =>
                go_wp2_with fail
                go_meet
                case rel => exact ⟨_, ⟨DP.set HD.out 7 _⟩⟩
              | false =>
                go_wp2_with fail
                go_meet
                case rel => exact ⟨_, HD⟩
            case rest =>
              clear HD
              obtain ⟨hi, HD⟩ := hcut
              go_upto_region 10 with fail
              go_cut [] (fun wc => Aside0 (DP P w w13 #[.int .i64 n, .int .i64 s, .slice Al 0 cl, .slice A l.length c] (some ad) inn (.slice A8 out.length c8) out #[.int .i64 (idm), .int .i64 0, .slice none 0 0, .int .i64 0, .int .i64 (nn + 1), .int .i64 (cnt + x.f3), .string (lo), .string (hi), .int .i64 0] wc))
              case first =>
                have e0 := blk_cell HD.out.b11 0
                have e1 := blk_cell HD.out.b11 1
                have e2 := blk_cell HD.out.b11 2
                have e3 := blk_cell HD.out.b11 3
                have e4 := blk_cell HD.out.b11 4
                have e5 := blk_cell HD.out.b11 5
                have e6 := blk_cell HD.out.b11 6
                have e7 := blk_cell HD.out.b11 7
                have e8 := blk_cell HD.out.b11 8
                have f0 := blk_frozen HD.out.b11 0
                have f3 := blk_frozen HD.out.b11 3
                have f4 := blk_frozen HD.out.b11 4
                have f5 := blk_frozen HD.out.b11 5
                have f6 := blk_frozen HD.out.b11 6
                have f7 := blk_frozen HD.out.b11 7
                obtain ⟨ad', B7, e7', he, x0, x1, x2, x3, x4, x5, x6, x7, x8, hxl, hxF⟩ := at_F47 HD.out.fi i HLT.out x HX.out
                injection he with he
                subst he
                clear hxl hxF
                have p5 := HP5.out
                go_region
                clear p5
                go_wp2_with fail
                go_meet
                case rel => first | exact ⟨DP.drew (DP.set HD.out 5 _)⟩ | exact ⟨DP.set (DP.drew HD.out) 5 _⟩
              case rest =>
                clear HD
                have HD := hcut
                clear hcut
                go_upto_region 11 with fail
                have e0 := blk_cell HD.out.b11 0
                have e1 := blk_cell HD.out.b11 1
                have e2 := blk_cell HD.out.b11 2
                have e3 := blk_cell HD.out.b11 3
                have e4 := blk_cell HD.out.b11 4
                have e5 := blk_cell HD.out.b11 5
                have e6 := blk_cell HD.out.b11 6
                have e7 := blk_cell HD.out.b11 7
                have e8 := blk_cell HD.out.b11 8
                have f0 := blk_frozen HD.out.b11 0
                have f3 := blk_frozen HD.out.b11 3
                have f4 := blk_frozen HD.out.b11 4
                have f5 := blk_frozen HD.out.b11 5
                have f6 := blk_frozen HD.out.b11 6
                have f7 := blk_frozen HD.out.b11 7
                obtain ⟨ad', B7, e7', he, x0, x1, x2, x3, x4, x5, x6, x7, x8, hxl, hxF⟩ := at_F47 HD.out.fi i HLT.out x HX.out
                injection he with he
                subst he
                clear hxl hxF
                have hmx := mxI_run
                go_region
                clear hmx
                go_wp2
                go_roundg (inn.length - i)
                case measure => exact HK.out
                case rel => exact ⟨i + 1, lo, hi, by go_num, ⟨by omega⟩, ⟨by omega⟩, ⟨by rw [HIS.out, HTS.out]; first | exact DP.drew (DP.set HD.out 0 _) | exact DP.set (DP.drew HD.out) 0 _⟩⟩
    · have ht : decide (i < inn.length) = false := decide_eq_false hlt
      have ht2 : decide ((i : Int) < (inn.length : Int)) = false := decide_eq_false (by omega)
      have hti : inn.take i = inn := List.take_of_length_le (by omega)
      rw [hti] at HD
      obtain ⟨cnt, hcn⟩ : ∃ z, totC inn = z := ⟨_, rfl⟩
      obtain ⟨idm, hidm⟩ : ∃ z, idM inn = z := ⟨_, rfl⟩
      have hcn0 := totC_nn HBI.out
      have HCN := Aside0.mk hcn
      have HIDM := Aside0.mk hidm
      have p2 := HTOT.out
      rw [hcn] at HD hcn0 p2
      rw [hidm] at HD
      clear hcn hidm hti
      go_upto_region 12 with fail
      obtain ⟨ct, hct⟩ : ∃ z, mx 1 (cnt - less) = z := ⟨_, rfl⟩
      have HCT := Aside0.mk hct
      go_cut [] (fun wc => Aside0 (DP P w w13 #[.int .i64 n, .int .i64 s, .slice Al 0 cl, .slice A l.length c] A7 inn (.slice A8 out.length c8) out #[.int .i64 (idm), .int .i64 0, .slice none 0 0, .int .i64 0, .int .i64 (nn + 1), .int .i64 (ct), .string (lo), .string (hi), .int .i64 0] wc))
      case first =>
        have e0 := blk_cell HD.out.b11 0
        have e1 := blk_cell HD.out.b11 1
        have e2 := blk_cell HD.out.b11 2
        have e3 := blk_cell HD.out.b11 3
        have e4 := blk_cell HD.out.b11 4
        have e5 := blk_cell HD.out.b11 5
        have e6 := blk_cell HD.out.b11 6
        have e7 := blk_cell HD.out.b11 7
        have e8 := blk_cell HD.out.b11 8
        have f0 := blk_frozen HD.out.b11 0
        have f3 := blk_frozen HD.out.b11 3
        have f4 := blk_frozen HD.out.b11 4
        have f5 := blk_frozen HD.out.b11 5
        have f6 := blk_frozen HD.out.b11 6
        have f7 := blk_frozen HD.out.b11 7
        have hmx := mxI_run
        go_wp2_with fail
        clear hmx
        go_meet
        case rel => exact ⟨DP.set HD.out 5 _⟩
      case rest =>
        clear HD hct
        have HD := hcut
        clear hcut
        have a0 := blk_cell HD.out.b4 0
        have a1 := blk_cell HD.out.b4 1
        have HE := Aside0.mk (show EP P w n s w13.heap.size wc.heap.size w13.heap.size #[.int .i64 idm, .int .i64 0, .slice none 0 0, .int .i64 0, .int .i64 (nn + 1), .int .i64 ct, .string lo, .string hi, .int .i64 0] #[.int .i64 idm, .int .i64 0, .slice none 0 0, .int .i64 0, .int .i64 (nn + 1), .int .i64 ct, .string lo, .string hi, .int .i64 0] (.slice A8 out.length c8) out (wc.alloc (.cells #[.int .i64 n, .int .i64 s, .slice none 0 0, .slice A8 out.length c8] 25)) from ⟨Nat.ne_of_lt (blk_lt HD.out.b11), Nat.ne_of_lt (blk_lt HD.out.b11), ⟨HD.out.hz, by have := blk_lt HD.out.b11; have := HD.out.hz; omega, HD.out.hz⟩, below_alloc HD.out.below _, blk_alloc HD.out.b8 _, blk_alloc HD.out.b11 _, blk_alloc HD.out.b11 _, blk_new wc _, Kd.N_alloc (Kd.N_mono (Kd.N_lower HD.out.no (Nat.le_add_right _ _)) (fun k hk => by have := blk_lt HD.out.b11; exact ⟨hk.1, by omega, by omega, by omega⟩)) _⟩)
        have HFI := Aside0.mk (Kd.F_alloc HD.out.fi (.cells #[.int .i64 n, .int .i64 s, .slice none 0 0, .slice A8 out.length c8] 25))
        have HGG := Aside0.mk (blk_lt HD.out.b11)
        go_upto_region 14 with fail
        clear a0 a1 HD
        generalize wc.heap.size = g13 at HE HGG ⊢
        go_cut [117] (fun v117 wd => ∃ b : Bool, v117 = .bool b ∧ Aside0 (b = true → 1 < ct ∧ 1 < inn.length) ∧ Aside0 (EP P w n s w13.heap.size g13 w13.heap.size #[.int .i64 idm, .int .i64 0, .slice none 0 0, .int .i64 0, .int .i64 (nn + 1), .int .i64 ct, .string lo, .string hi, .int .i64 0] #[.int .i64 idm, .int .i64 0, .slice none 0 0, .int .i64 0, .int .i64 (nn + 1), .int .i64 ct, .string lo, .string hi, .int .i64 0] (.slice A8 out.length c8) out wd) ∧ Aside0 (Kd.F k47 wd (fun k => k < w13.heap.size) A7 inn.length inn))
        case first =>
          have e5 := blk_cell HE.out.b11 5
          have e6 := blk_cell HE.out.b11 6
          have e7 := blk_cell HE.out.b11 7
          cases two with
          | false =>
            go_wp2_with fail
            go_meet
            case rel => exact ⟨false, rfl, ⟨fun h => by cases h⟩, HE, HFI⟩
          | true =>
            by_cases h1 : 1 < ct
            · have t1 : decide (1 < ct) = true := decide_eq_true h1
              have HH1 := Aside0.mk h1
              clear h1
              by_cases h2 : 1 < inn.length
              · have t2 : decide (1 < inn.length) = true := decide_eq_true h2
                have t3 : decide ((1 : Int) < (inn.length : Int)) = true := decide_eq_true (by omega)
                have HH2 := Aside0.mk h2
                clear h2
                go_wp2_with fail
                all_goals
                  go_meet
                  case rel => exact ⟨_, rfl, ⟨fun _ => ⟨HH1.out, HH2.out⟩⟩, HE, HFI⟩
              · have t2 : decide (1 < inn.length) = false := decide_eq_false h2
                have t3 : decide ((1 : Int) < (inn.length : Int)) = false := decide_eq_false (by omega)
                clear h2
                go_wp2_with fail
                all_goals
                  go_meet
                  case rel => exact ⟨false, rfl, ⟨fun h => by cases h⟩, HE, HFI⟩
            · have t1 : decide (1 < ct) = false := decide_eq_false h1
              clear h1
              go_wp2_with fail
              go_meet
              case rel => exact ⟨false, rfl, ⟨fun h => by cases h⟩, HE, HFI⟩
        case rest =>
          clear HE HFI
          obtain ⟨b, rfl, HB2, HE, HFI⟩ := hcut
          have HLBA := Aside0.mk (show (0 : Nat) = 0 from rfl)
          cases b with
          | false =>
            obtain ⟨l20, hl20⟩ : ∃ z, out ++ [(⟨⟨idm, 0, []⟩, 0, nn + 1, ct, lo, hi, 0⟩ : S47)] = z := ⟨_, rfl⟩
            have HL20 := Aside0.mk hl20
            clear hl20
            have HDO := Aside0.mk (show DoneOf nn less inn out l20 from ⟨lo, hi, .inl (by rw [HIDM.out, HCN.out, HCT.out, HL20.out])⟩)
            have e0 := blk_cell HE.out.b11 0
            have e1 := blk_cell HE.out.b11 1
            have e2 := blk_cell HE.out.b11 2
            have e3 := blk_cell HE.out.b11 3
            have e4 := blk_cell HE.out.b11 4
            have e5 := blk_cell HE.out.b11 5
            have e6 := blk_cell HE.out.b11 6
            have e7 := blk_cell HE.out.b11 7
            have e8 := blk_cell HE.out.b11 8
            have k0 := blk_cell HE.out.b13 0
            have k1 := blk_cell HE.out.b13 1
            have k2 := blk_cell HE.out.b13 2
            have k3 := blk_cell HE.out.b13 3
            have kf := blk_frozen HE.out.b13 3
            have HLBHE20 := Aside0.mk (show ((out).length + 1) * 104 ≤ 140737488355328 from by have := HOUL.out; (try simp only [List.length_append, List.length_cons, List.length_nil]); omega)
            go_wp2_with (first | ((with_reducible refine gate_builtin (b := .append) (xs := #[.tmp 150, .tmp 152]) rfl ?_); at_builtin; go_must (refine Kd.N_append k47 (w0 := w) w.heap.size rfl (.tmp 150) (.tmp 152) 23 47 (.agg #[.int .i64 0, .int .i64 0, .slice none 0 0, .int .i64 0, .int .i64 0, .int .i64 0, .string ⟨#[]⟩, .string ⟨#[]⟩, .int .i64 0]) 104 rfl Try.underlying23 info47 rfl (by decide) (by decide) (.slice A8 out.length c8) out (⟨⟨idm, 0, []⟩, 0, nn + 1, ct, lo, hi, 0⟩ : S47) [.int .i64 (idm), .int .i64 0, .slice none 0 0, .int .i64 0, .int .i64 (nn + 1), .int .i64 (ct), .string lo, .string hi, .int .i64 0] (fun k => ((P k ∧ k < w.heap.size) ∨ w.heap.size + 3 ≤ k) ∧ k ≠ w13.heap.size ∧ k ≠ g13 ∧ k ≠ w13.heap.size) (fun _ => False) rfl (by first | rfl | (simp; rfl) | simp) (k47_mkF _ (fun _ => False) (⟨⟨idm, 0, []⟩, 0, nn + 1, ct, lo, hi, 0⟩ : S47) (A2 := none) (c2 := 0) (Nat.le_refl _) (Kd.F_nil _ _ _)) (fun _ hk => hk.elim) (EP.fresh HE.out) HE.out.no HE.out.below HE.out.below.size HLBHE20.out ?_); intro v20 w20 ho hb hg hat; rw [HL20.out] at ho; obtain ⟨A20, c20, rfl⟩ := Kd.N_slice ho; have HE20 := Aside0.mk (EP.app HE.out ho hb hg); have HBGHE20 := Aside0.mk (EP.b13g HE.out hg); have m200 := blk_cell HBGHE20.out 0; have m201 := blk_cell HBGHE20.out 1; have m202 := blk_cell HBGHE20.out 2; have m203 := blk_cell HBGHE20.out 3; have mf20 := blk_frozen HBGHE20.out 3; clear ho hb hg hat) | ((with_reducible refine gate_store (t := 25) (p := 8) (v := .tmp 155) rfl ?_); refine store4_event (cs := #[.int .i64 n, .int .i64 s, .slice none 0 0, .slice A20 l20.length c20]) rfl rfl rfl rfl rfl HE20.out.b8 size25 rfl (by intro q hq; simp at hq; rcases hq with rfl | rfl | rfl | rfl <;> rfl) ?_; intro w11 hb11 hg11 hs11; have HB11 := Aside0.mk hb11; have HG11 := Aside0.mk hg11; clear hb11 hg11 hs11))
            exact end12 HB11.out rfl rfl (done_end HE20.out HG11.out HDO.out)
          | true =>
            replace HB2 := Aside0.mk (HB2.out rfl)
            have hct1 := HB2.out.1
            have hct2 : ct ≤ 268435457 := by have := HCT.out; unfold mx at this; split at this <;> omega
            obtain ⟨x0, hx0⟩ : ∃ x, x = inn.getD 0 z47 := ⟨_, rfl⟩
            obtain ⟨x1, hx1⟩ : ∃ x, x = inn.getD 1 z47 := ⟨_, rfl⟩
            obtain ⟨id0, hid0⟩ : ∃ z, x0.f0.f0 = z := ⟨_, rfl⟩
            obtain ⟨id1, hid1⟩ : ∃ z, x1.f0.f0 = z := ⟨_, rfl⟩
            have HX0 := Aside0.mk hx0
            have HX1 := Aside0.mk hx1
            have HID0 := Aside0.mk hid0
            have HID1 := Aside0.mk hid1
            clear hx0 hx1 hid0 hid1
            have e0 := blk_cell HE.out.b11 0
            have e1 := blk_cell HE.out.b11 1
            have e2 := blk_cell HE.out.b11 2
            have e3 := blk_cell HE.out.b11 3
            have e4 := blk_cell HE.out.b11 4
            have e5 := blk_cell HE.out.b11 5
            have e6 := blk_cell HE.out.b11 6
            have e7 := blk_cell HE.out.b11 7
            have e8 := blk_cell HE.out.b11 8
            have d6 : ∀ o, (wc.alloc o).cell? ⟨w13.heap.size, 6, none⟩ = some (.string lo) := fun o => (blk_cell (blk_alloc HE.out.b11 o) 6).trans rfl
            have HEA := Aside0.mk (EP.new14 HE.out #[.int .i64 idm, .int .i64 0, .slice none 0 0, .int .i64 0, .int .i64 (nn + 1), .int .i64 1, .string lo, .string lo, .int .i64 0])
            have HG14 := Aside0.mk (show w13.heap.size < wc.heap.size from blk_lt HE.out.b11)
            have HFA := Aside0.mk (Kd.F_alloc HFI.out (.cells #[.int .i64 idm, .int .i64 0, .slice none 0 0, .int .i64 0, .int .i64 (nn + 1), .int .i64 1, .string lo, .string lo, .int .i64 0] 47))
            go_upto_region 17 with fail
            clear e0 e1 e2 e3 e4 e5 e6 e7 e8 d6 HE HFI
            generalize wc.heap.size = g14 at HEA HFA HG14 ⊢
            go_cut [] (fun we => Aside0 (EP P w n s w13.heap.size g13 g14 #[.int .i64 idm, .int .i64 0, .slice none 0 0, .int .i64 0, .int .i64 (nn + 1), .int .i64 ct, .string lo, .string hi, .int .i64 0] #[.int .i64 (mn id0 id1), .int .i64 0, .slice none 0 0, .int .i64 0, .int .i64 (nn + 1), .int .i64 1, .string lo, .string lo, .int .i64 0] (.slice A8 out.length c8) out we))
            case first =>
              have e0 := blk_cell HEA.out.b14 0
              have f0 := blk_frozen HEA.out.b14 0
              obtain ⟨ad, B7, e7, hA7, z0, z1, z2, z3, z4, z5, z6, z7, z8, zl, zF⟩ := at_F47 HFA.out 0 (by have := HB2.out.2; omega) x0 HX0.out
              subst hA7
              obtain ⟨ad', B7', e7', he, y0, y1, y2, y3, y4, y5, y6, y7, y8, yl, yF⟩ := at_F47 HFA.out 1 HB2.out.2 x1 HX1.out
              injection he with he
              subst he
              have had : ad.add 0 = ad := by simp [Addr.add]
              rw [Nat.zero_mul, had, HID0.out] at z0
              have had1 : ad.add (1 * 9) = ⟨ad.block, ad.off + 9, none⟩ := by simp [Addr.add]
              rw [had1, HID1.out] at y0
              have q0 : (0 : Int) < (inn.length : Int) := by have := HB2.out.2; omega
              have q1 : (1 : Int) < (inn.length : Int) := by have := HB2.out.2; omega
              clear z1 z2 z3 z4 z5 z6 z7 z8 zl zF y1 y2 y3 y4 y5 y6 y7 y8 yl yF had had1
              have hmn := mnI_run
              go_region
              clear hmn
              go_wp2_with fail
              go_meet
              case rel => first | exact ⟨EP.to (EP.put14 HEA.out (Nat.ne_of_lt HG14.out) 0 _) (below_drew (Below.refl _ _))⟩ | exact ⟨EP.put14 (EP.to HEA.out (below_drew (Below.refl _ _))) (Nat.ne_of_lt HG14.out) 0 _⟩
            case rest =>
              clear HEA HFA
              have HE := hcut
              clear hcut
              go_upto_region 18 with fail
              go_cut [] (fun wf => Aside0 (EP P w n s w13.heap.size g13 g14 #[.int .i64 idm, .int .i64 0, .slice none 0 0, .int .i64 0, .int .i64 (nn + 1), .int .i64 (ct - 1), .string hi, .string hi, .int .i64 0] #[.int .i64 (mn id0 id1), .int .i64 0, .slice none 0 0, .int .i64 0, .int .i64 (nn + 1), .int .i64 1, .string lo, .string lo, .int .i64 0] (.slice A8 out.length c8) out wf))
              case first =>
                have e5 := blk_cell HE.out.b11 5
                have e6 := blk_cell HE.out.b11 6
                have e7 := blk_cell HE.out.b11 7
                have f5 := blk_frozen HE.out.b11 5
                have f6 := blk_frozen HE.out.b11 6
                go_wp2_with fail
                go_meet
                case rel => exact ⟨EP.put11 (EP.put11 HE.out (Nat.ne_of_gt HG14.out) 6 _) (Nat.ne_of_gt HG14.out) 5 _⟩
              case rest =>
                clear HE
                have HE := hcut
                clear hcut
                obtain ⟨l19, hl19⟩ : ∃ z, out ++ [(⟨⟨mn id0 id1, 0, []⟩, 0, nn + 1, 1, lo, lo, 0⟩ : S47)] = z := ⟨_, rfl⟩
                obtain ⟨l20, hl20⟩ : ∃ z, l19 ++ [(⟨⟨idm, 0, []⟩, 0, nn + 1, ct - 1, hi, hi, 0⟩ : S47)] = z := ⟨_, rfl⟩
                have HL19 := Aside0.mk hl19
                have HL20 := Aside0.mk hl20
                have HN19 := Aside0.mk (show l19.length = out.length + 1 from by rw [← hl19, List.length_append]; rfl)
                clear hl19 hl20
                have HDO := Aside0.mk (show DoneOf nn less inn out l20 from ⟨lo, hi, .inr ⟨HB2.out.2, by rw [HCN.out, HCT.out]; exact HB2.out.1, _, by rw [← HX0.out, ← HX1.out, HID0.out, HID1.out], by rw [HIDM.out, HCN.out, HCT.out, HL19.out, HL20.out]⟩⟩)
                have e0 := blk_cell HE.out.b14 0
                have e1 := blk_cell HE.out.b14 1
                have e2 := blk_cell HE.out.b14 2
                have e3 := blk_cell HE.out.b14 3
                have e4 := blk_cell HE.out.b14 4
                have e5 := blk_cell HE.out.b14 5
                have e6 := blk_cell HE.out.b14 6
                have e7 := blk_cell HE.out.b14 7
                have e8 := blk_cell HE.out.b14 8
                have k0 := blk_cell HE.out.b13 0
                have k1 := blk_cell HE.out.b13 1
                have k2 := blk_cell HE.out.b13 2
                have k3 := blk_cell HE.out.b13 3
                have kf := blk_frozen HE.out.b13 3
                have HLBHE19 := Aside0.mk (show (out.length + 1) * 104 ≤ 140737488355328 from by have := HOUL.out; omega)
                go_upto_region 20 with (first | ((with_reducible refine gate_builtin (b := .append) (xs := #[.tmp 144, .tmp 146]) rfl ?_); at_builtin; go_must (refine Kd.N_append k47 (w0 := w) w.heap.size rfl (.tmp 144) (.tmp 146) 23 47 (.agg #[.int .i64 0, .int .i64 0, .slice none 0 0, .int .i64 0, .int .i64 0, .int .i64 0, .string ⟨#[]⟩, .string ⟨#[]⟩, .int .i64 0]) 104 rfl Try.underlying23 info47 rfl (by decide) (by decide) (.slice A8 out.length c8) out (⟨⟨mn id0 id1, 0, []⟩, 0, nn + 1, 1, lo, lo, 0⟩ : S47) [.int .i64 (mn id0 id1), .int .i64 0, .slice none 0 0, .int .i64 0, .int .i64 (nn + 1), .int .i64 (1), .string lo, .string lo, .int .i64 0] (fun k => ((P k ∧ k < w.heap.size) ∨ w.heap.size + 3 ≤ k) ∧ k ≠ w13.heap.size ∧ k ≠ g13 ∧ k ≠ g14) (fun _ => False) rfl (by first | rfl | (simp; rfl) | simp) (k47_mkF _ (fun _ => False) (⟨⟨mn id0 id1, 0, []⟩, 0, nn + 1, 1, lo, lo, 0⟩ : S47) (A2 := none) (c2 := 0) (Nat.le_refl _) (Kd.F_nil _ _ _)) (fun _ hk => hk.elim) (EP.fresh HE.out) HE.out.no HE.out.below HE.out.below.size HLBHE19.out ?_); intro v19 w19 ho hb hg hat; rw [HL19.out] at ho; obtain ⟨A19, c19, rfl⟩ := Kd.N_slice ho; have HE19 := Aside0.mk (EP.app HE.out ho hb hg); have HBGHE19 := Aside0.mk (EP.b13g HE.out hg); have m190 := blk_cell HBGHE19.out 0; have m191 := blk_cell HBGHE19.out 1; have m192 := blk_cell HBGHE19.out 2; have m193 := blk_cell HBGHE19.out 3; have mf19 := blk_frozen HBGHE19.out 3; clear ho hb hg hat))
                clear e0 e1 e2 e3 e4 e5 e6 e7 e8 k0 k1 k2 k3 kf
                have e0 := blk_cell HE19.out.b11 0
                have e1 := blk_cell HE19.out.b11 1
                have e2 := blk_cell HE19.out.b11 2
                have e3 := blk_cell HE19.out.b11 3
                have e4 := blk_cell HE19.out.b11 4
                have e5 := blk_cell HE19.out.b11 5
                have e6 := blk_cell HE19.out.b11 6
                have e7 := blk_cell HE19.out.b11 7
                have e8 := blk_cell HE19.out.b11 8
                have k0 := blk_cell HE19.out.b13 0
                have k1 := blk_cell HE19.out.b13 1
                have k2 := blk_cell HE19.out.b13 2
                have k3 := blk_cell HE19.out.b13 3
                have kf := blk_frozen HE19.out.b13 3
                have HLBHE20 := Aside0.mk (show (l19.length + 1) * 104 ≤ 140737488355328 from by have := HOUL.out; have := HN19.out; (try simp only [List.length_append, List.length_cons, List.length_nil]); omega)
                go_wp2_with (first | ((with_reducible refine gate_builtin (b := .append) (xs := #[.tmp 150, .tmp 152]) rfl ?_); at_builtin; go_must (refine Kd.N_append k47 (w0 := w) w.heap.size rfl (.tmp 150) (.tmp 152) 23 47 (.agg #[.int .i64 0, .int .i64 0, .slice none 0 0, .int .i64 0, .int .i64 0, .int .i64 0, .string ⟨#[]⟩, .string ⟨#[]⟩, .int .i64 0]) 104 rfl Try.underlying23 info47 rfl (by decide) (by decide) (.slice A19 l19.length c19) l19 (⟨⟨idm, 0, []⟩, 0, nn + 1, ct - 1, hi, hi, 0⟩ : S47) [.int .i64 (idm), .int .i64 0, .slice none 0 0, .int .i64 0, .int .i64 (nn + 1), .int .i64 (ct - 1), .string hi, .string hi, .int .i64 0] (fun k => ((P k ∧ k < w.heap.size) ∨ w.heap.size + 3 ≤ k) ∧ k ≠ w13.heap.size ∧ k ≠ g13 ∧ k ≠ g14) (fun _ => False) rfl (by first | rfl | (simp; rfl) | simp) (k47_mkF _ (fun _ => False) (⟨⟨idm, 0, []⟩, 0, nn + 1, ct - 1, hi, hi, 0⟩ : S47) (A2 := none) (c2 := 0) (Nat.le_refl _) (Kd.F_nil _ _ _)) (fun _ hk => hk.elim) (EP.fresh HE19.out) HE19.out.no HE19.out.below HE19.out.below.size HLBHE20.out ?_); intro v20 w20 ho hb hg hat; rw [HL20.out] at ho; obtain ⟨A20, c20, rfl⟩ := Kd.N_slice ho; have HE20 := Aside0.mk (EP.app HE19.out ho hb hg); have HBGHE20 := Aside0.mk (EP.b13g HE19.out hg); have m200 := blk_cell HBGHE20.out 0; have m201 := blk_cell HBGHE20.out 1; have m202 := blk_cell HBGHE20.out 2; have m203 := blk_cell HBGHE20.out 3; have mf20 := blk_frozen HBGHE20.out 3; clear ho hb hg hat) | ((with_reducible refine gate_store (t := 25) (p := 8) (v := .tmp 155) rfl ?_); refine store4_event (cs := #[.int .i64 n, .int .i64 s, .slice none 0 0, .slice A20 l20.length c20]) rfl rfl rfl rfl rfl HE20.out.b8 size25 rfl (by intro q hq; simp at hq; rcases hq with rfl | rfl | rfl | rfl <;> rfl) ?_; intro w11 hb11 hg11 hs11; have HB11 := Aside0.mk hb11; have HG11 := Aside0.mk hg11; clear hb11 hg11 hs11))
                exact end12 HB11.out rfl rfl (done_end HE20.out HG11.out HDO.out)
end Go.Proofs.Ytgnmdhjnpbnacaa.PB
end
section
set_option linter.unusedVariables false
set_option linter.unusedSimpArgs false
namespace Go.Proofs.Ytgnmdhjnpbnacaa.PB
open Go.RowKit Go.Proofs.YtgnmdhjnpbnacaaW.PrintWords Go.Proofs.YtgnmdhjnpbnacaaW.PrintLast Go.Proofs.YtgnmdhjnpbnacaaW.PrintMore
/-- what a job names, for PickEnds -/
theorem job_law {nn : Int} {l li : List S47} {lo hi : ByteArray} (hE : EOK l) (hT : Takes nn l li) (h1 : 1 ≤ li.length) (ins over : List Int) (hins : ins = sortI (li.map idT)) (hover : over = sortI ((l.filter (ovP (nn + 1) lo hi)).map idT)) :
    (∀ x ∈ l.filter (inJ ins over), x.f2 = nn ∨ x.f2 = nn + 1) ∧ (∃ x ∈ l.filter (inJ ins over), x.f2 = nn) := by
  subst hins hover
  obtain ⟨pin, a1, a2, a3, a4, a5, a6, a7⟩ := named_law (lo := lo) (hi := hi) hE.ne hT
  refine ⟨fun x hx => ?_, ?_⟩
  · obtain ⟨hxl, hxi⟩ := List.mem_filter.1 hx
    rw [a1 x hxl, Bool.or_eq_true] at hxi
    rcases hxi with h | h
    · exact .inl (a4 x hxl h).1
    · exact .inr (ov_iff.1 h).1
  · rcases li with _ | ⟨x, li⟩
    · simp at h1
    · obtain ⟨b1, b2, b3⟩ := a5 x (by simp)
      exact ⟨x, List.mem_filter.2 ⟨b1, by rw [a1 x b1, b3]; rfl⟩, b2⟩
set_option maxHeartbeats 16000000 in
set_option maxRecDepth 100000 in
theorem ends_c (n s : Int) (Al : Option Addr) (cl : Nat) (lg : List S57) (A : Option Addr) (c : Nat) (l : List S47) (two : Int) (Ag : Option Addr) (cg : Nat) (ls : List Int) (w : World) (hl : l.length ≤ 9223372036854775806) (hlg : Kd.C k57 w Al lg.length lg) (hcl : lg.length ≤ cl) (hF : Kd.F k47 w (fun k => k < w.heap.size) A l.length l) (hc : l.length ≤ c) (hq : ∀ x ∈ l, okT x) (hLS : Kd.C (Kd.int .u8) w Ag ls.length ls) (hls : ∀ x ∈ ls, 0 ≤ x ∧ x < 256) (hll : ls.length ≤ 9223372036854775806) :
    Calls Try.prog 3 #[.agg #[.int .i64 n, .int .i64 s, .slice Al lg.length cl, .slice A l.length c], .int .u64 two, .slice Ag ls.length cg] w fun e w' => e = .returned (.bool true) ∧ Below w.heap.size w w' := by
  have HLS := Aside0.mk hLS
  have HLB := Aside0.mk hls
  clear hLS hls
  have HBA := Aside0.mk (below_alloc (Below.refl w.heap.size w) (.cells #[.int .i64 n, .int .i64 s, .slice Al lg.length cl, .slice A l.length c] 25))
  have HG := Aside0.mk (blk_new w (.cells #[.int .i64 n, .int .i64 s, .slice Al lg.length cl, .slice A l.length c] 25))
  have HF := Aside0.mk (Kd.F_alloc hF (.cells #[.int .i64 n, .int .i64 s, .slice Al lg.length cl, .slice A l.length c] 25))
  have HLG := Aside0.mk (Kd.C_below hlg HBA.out)
  have HQ := Aside0.mk (few_ok l hq)
  obtain ⟨l2, hl2⟩ : ∃ l2, fewL l = l2 := ⟨_, rfl⟩
  have hlen := few_len l
  rw [hl2] at hlen HQ
  have hlen2 := Aside0.mk (show l2.length ≤ 200 from by omega)
  have HL2 := Aside0.mk hl2
  clear hl2 hF hlg hq hlen
  go_enter Try.func3, Try.ntmps3
  go_wp2_with (first | (go_at_call 6; with_reducible refine (few_c (fun k => k < w.heap.size) n s Al cl lg A c l _ hl HLG.out hcl HF.out hc).mono ?_; (rw [HL2.out]); rintro e w2 ⟨A2, c2, A3, c3, rfl, hF2, hc3, hB2⟩; have HF2 := Aside0.mk hF2; have HC3 := Aside0.mk hc3; have HB2 := Aside0.mk (below_step HBA.out hB2); have HG2 := Aside0.mk (blk_below HG.out hB2); clear hF2 hc3 hB2) | ((with_reducible refine gate_store (t := 25) (p := 3) (v := .tmp 13) rfl ?_); refine store4_event (cs := #[.int .i64 0, .int .i64 0, .slice A2 0 c2, .slice A3 l2.length c3]) rfl rfl rfl rfl rfl HG2.out size25 rfl (by intro q hq; simp at hq; rcases hq with rfl | rfl | rfl | rfl <;> rfl) ?_; intro w9 hb9 hg9 hs9; have HVP := Aside0.mk (VP.set2 (VP.mk (grownB HB2.out hg9 (Nat.le_refl _)) hb9 (Kd.F_mono (Kd.F_grown HF2.out hg9 (fun k hk e => alloc_ne w _ k hk (Option.some.inj e))) (fun k hk e => alloc_ne w _ k hk e))) (.int .i64 1048576) (.int .i64 1099511627776)); have g0 := blk_cell hb9 0; have g1 := blk_cell hb9 1; have g2 := blk_cell hb9 2; have g3 := blk_cell hb9 3; have f0 := blk_frozen hb9 0; have f1 := blk_frozen hb9 1; clear hb9 hg9 hs9) | (go_at_call 7; refine (awake_c _).mono ?_; rintro e w7 ⟨rfl, hB7⟩; have HV7 := Aside0.mk (VP.to HVP.out hB7); have c70 := blk_cell HV7.out.bv 0; have c71 := blk_cell HV7.out.bv 1; have c72 := blk_cell HV7.out.bv 2; have c73 := blk_cell HV7.out.bv 3; clear hB7))
  clear HG HF HLG HBA HF2 HB2 HG2 g0 g1 g2 g3 f0 f1 HVP
  with_reducible refine (is_b A2 c2 A3 c3 l2 _ HV7.out.fT HC3.out hlen2.out).mono ?_
  rintro e w8 ⟨b, rfl, hVOK, hB8⟩
  have HVOK := Aside0.mk hVOK
  have HV8 := Aside0.mk (VP.to HV7.out hB8)
  clear hVOK hB8 c70 c71 c72 c73
  have c80 := blk_cell HV8.out.bv 0
  have c81 := blk_cell HV8.out.bv 1
  have c82 := blk_cell HV8.out.bv 2
  have c83 := blk_cell HV8.out.bv 3
  cases b with
  | false =>
    go_wp2_with (first | (go_at_call 7; refine (awake_c _).mono ?_; rintro e w9 ⟨rfl, hB9⟩; have HV9 := Aside0.mk (VP.to HV8.out hB9); clear hB9))
    go_ret
    exact ⟨rfl, HV9.out.below⟩
  | true =>
    have HE := Aside0.mk (VOK.eok (HVOK.out rfl))
    clear HVOK
    obtain ⟨bd, hbd⟩ : ∃ z, 1 + wtL l2 = z := ⟨_, rfl⟩
    have HBD := Aside0.mk hbd
    clear hbd
    go_wp2_with (first | (go_at_call 9; with_reducible refine (bound_c 1048576 1099511627776 A2 c2 A3 c3 l2 _ HE.out HV8.out.fT HC3.out).mono ?_; (rw [HBD.out]); rintro e w9 ⟨rfl, hB9⟩; have HV9 := Aside0.mk (VP.to HV8.out hB9); clear hB9))
    clear c80 c81 c82 c83
    go_loopg [8] 401 (fun kq v8 wr => ∃ (k : Nat) (lt : List S47) (Al' : Option Addr) (cl' : Nat) (At : Option Addr) (ct : Nat), v8 = .int .i64 k ∧ Aside0 (k ≤ 400) ∧ Aside0 (400 - k < kq) ∧ Aside0 (EOK lt) ∧ Aside0 (wtL lt + k + 1 ≤ bd) ∧ Aside0 (lt.length ≤ ct) ∧ Aside0 (VP w #[.int .i64 1048576, .int .i64 1099511627776, .slice Al' 0 cl', .slice At lt.length ct] At lt wr))
    case atStart => exact ⟨0, l2, A2, c2, A3, c3, rfl, ⟨by decide⟩, ⟨by decide⟩, HE, ⟨by have := HBD.out; omega⟩, HC3, HV9⟩
    case round =>
      clear HE HC3 HV9 HV8 HV7 hlen2 HQ
      obtain ⟨k, lt, Al', cl', At, ct, rfl, HK, HKQ, HE, HW, HCT, HV⟩ := hrel
      have hk := HK.out
      have hln := Aside0.mk (show lt.length ≤ 200 from by have := HE.out.len; omega)
      have HQT := Aside0.mk HE.out.okT
      have c0 := blk_cell HV.out.bv 0
      have c1 := blk_cell HV.out.bv 1
      have c2' := blk_cell HV.out.bv 2
      have c3' := blk_cell HV.out.bv 3
      by_cases hlt : k < 400
      · have ht : decide ((k : Int) < 400) = true := decide_eq_true (by omega)
        have ht2 : decide (k < 400) = true := decide_eq_true hlt
        rcases hfull : fullTo lt 3 with _ | ⟨nn, rest⟩
        · have HFL := Aside0.mk hfull
          clear hfull
          go_wp2_with (first | (go_at_call 10; with_reducible refine (pick_none 1048576 1099511627776 (.slice Al' 0 cl') At ct lt _ HQT.out HV.out.fT HCT.out hln.out HFL.out).mono ?_; rintro e w9 ⟨rfl, hB9⟩; have HV9 := Aside0.mk (VP.to HV.out hB9); have HVA := Aside0.mk (VP.alloc HV9.out (.cells #[.int .i64 0, .slice none 0 0, .slice none 0 0] 34)); have d90 : ∀ o, (w9.alloc o).cell? ⟨w.heap.size, 0, none⟩ = some (.int .i64 1048576) := (fun o => (blk_cell (blk_alloc HV9.out.bv o) 0).trans rfl); have d91 : ∀ o, (w9.alloc o).cell? ⟨w.heap.size, 1, none⟩ = some (.int .i64 1099511627776) := (fun o => (blk_cell (blk_alloc HV9.out.bv o) 1).trans rfl); have d92 : ∀ o, (w9.alloc o).cell? ⟨w.heap.size, 2, none⟩ = some (.slice Al' 0 cl') := (fun o => (blk_cell (blk_alloc HV9.out.bv o) 2).trans rfl); have d93 : ∀ o, (w9.alloc o).cell? ⟨w.heap.size, 3, none⟩ = some (.slice At lt.length ct) := (fun o => (blk_cell (blk_alloc HV9.out.bv o) 3).trans rfl); clear hB9) | (go_at_call 11; refine (fullR_c 1048576 1099511627776 Al' cl' [] At ct lt _ (nilC k57 _ Al') (Nat.zero_le _) (Kd.F_now HVA.out.fT) HCT.out hln.out).mono ?_; (rw [HFL.out]); rintro e w11 ⟨A11, c11, rfl, hR11, hB11⟩; have HV11 := Aside0.mk (VP.to HVA.out hB11); clear hR11 hB11))
          go_ret
          exact ⟨rfl, HV11.out.below⟩
        · have HFL := Aside0.mk hfull
          have HN := Aside0.mk (full_head hfull).1
          clear hfull
          go_wp2_with fail
          with_reducible refine (pick_any nn 1048576 1099511627776 (.slice Al' 0 cl') At ct lt _ HQT.out HV.out.fT HCT.out hln.out rest HFL.out).mono ?_
          rintro e w9 ⟨li, lo, hi, A5, c5, A6, c6, hT, h1, har, rfl, hC5, hc5, hC6, hc6, hB9⟩
          have HJL := Aside0.mk (job_law (lo := lo) (hi := hi) HE.out hT h1 _ _ rfl rfl)
          have HLI := Aside0.mk (show li.length ≤ 200 from by
            rcases hT with ⟨_, rfl⟩ | ⟨_, y, _, rfl⟩
            · exact Nat.le_trans (List.length_filter_le _ _) hln.out
            · simp)
          obtain ⟨ins, hins⟩ : ∃ x, sortI (li.map idT) = x := ⟨_, rfl⟩
          obtain ⟨over, hover⟩ : ∃ x, sortI ((lt.filter (ovP (nn + 1) lo hi)).map idT) = x := ⟨_, rfl⟩
          have hil : ins.length ≤ 200 := by rw [← hins, sortI_length, List.length_map]; exact HLI.out
          have hol : over.length ≤ 200 := by rw [← hover, sortI_length, List.length_map]; exact Nat.le_trans (List.length_filter_le _ _) hln.out
          rw [hins] at HJL hC5 hc5 ⊢
          rw [hover] at HJL hC6 hc6 ⊢
          obtain ⟨inn, hinn⟩ : ∃ x, lt.filter (inJ ins over) = x := ⟨_, rfl⟩
          obtain ⟨out, hout⟩ : ∃ x, lt.filter (outJ ins over) = x := ⟨_, rfl⟩
          rw [hinn] at HJL
          have HINN := Aside0.mk hinn
          have HOUT := Aside0.mk hout
          have HD5 := Aside0.mk hc5
          have HD6 := Aside0.mk hc6
          have HIM := Aside0.mk (show ins.length ≤ 1000000 from Nat.le_trans hil (by decide))
          have HOM := Aside0.mk (show over.length ≤ 1000000 from Nat.le_trans hol (by decide))
          have HCN := Aside0.mk (show ∀ x ∈ lt, 1 ≤ x.f3 from fun x hx => (HE.out.all x hx).2.2.2.2)
          have HTT := Aside0.mk (show totC inn ≤ 268435456 from by
            have h1 := (tot_split (inJ ins over) lt).1
            rw [hinn] at h1
            have h2 := totC_nn (l := lt.filter fun x => !inJ ins over x) (fun x hx => HCN.out x (List.mem_filter.1 hx).1)
            have h3 := HE.out.tot
            omega)
          have HVA := Aside0.mk (VP.alloc (VP.to HV.out hB9) (.cells #[.int .i64 nn, .slice A5 ins.length c5, .slice A6 over.length c6] 34))
          have HJA := Aside0.mk (blk_new w9 (.cells #[.int .i64 nn, .slice A5 ins.length c5, .slice A6 over.length c6] 34))
          have HC5a := Aside0.mk (Kd.C_below hC5 (below_alloc (Below.refl w9.heap.size w9) (.cells #[.int .i64 nn, .slice A5 ins.length c5, .slice A6 over.length c6] 34)))
          have HC6a := Aside0.mk (Kd.C_below hC6 (below_alloc (Below.refl w9.heap.size w9) (.cells #[.int .i64 nn, .slice A5 ins.length c5, .slice A6 over.length c6] 34)))
          clear hT h1 har hC5 hc5 hC6 hc6 hB9 hins hover hil hol HLI hinn hout c0 c1 c2' c3'
          have hn0 : 0 ≤ nn := by rcases HN.out with rfl | rfl | rfl <;> decide
          have hn2 : nn ≤ 2 := by rcases HN.out with rfl | rfl | rfl <;> decide
          go_upto_if 44 with fail
          generalize w9.heap.size = gj at HJA ⊢
          go_cut [11] (fun v11 wc => ∃ kk : Int, v11 = .int .i64 kk ∧ Aside0 (0 ≤ kk ∧ kk ≤ 3) ∧ Aside0 (VP w #[.int .i64 1048576, .int .i64 1099511627776, .slice Al' 0 cl', .slice At lt.length ct] At lt wc) ∧ Aside0 (wc.heap[gj]? = some (.cells #[.int .i64 nn, .slice A5 ins.length c5, .slice A6 over.length c6] 34 (0, 0))) ∧ Aside0 (kI.C wc A5 ins.length ins) ∧ Aside0 (kI.C wc A6 over.length over))
          case first =>
            by_cases hkl : k < ls.length
            · have tk : decide (k < ls.length) = true := decide_eq_true hkl
              have tk2 : decide ((k : Int) < (ls.length : Int)) = true := decide_eq_true (by omega)
              have hk0 : (0 : Int) ≤ (k : Int) := by omega
              have hk1 : (k : Int) < (ls.length : Int) := by omega
              obtain ⟨ad, hA, hx⟩ := Kd.at_int (Kd.C_below HLS.out HVA.out.below) (k : Int) hk0 hk1
              subst hA
              obtain ⟨z, hz⟩ : ∃ z, z = rd ls (k : Int) := ⟨_, rfl⟩
              have hzb : 0 ≤ z ∧ z < 256 := HLB.out z (by rw [hz, rd_D, List.getD_eq_getElem?_getD, List.getElem?_eq_getElem hkl]; exact List.getElem_mem _)
              rw [← hz, Int.toNat_natCast] at hx
              have z0 := hzb.1
              have z1 := hzb.2
              clear hz hzb
              go_wp2_with fail
              go_meet
              case rel => exact ⟨_, rfl, ⟨by omega, by omega⟩, HVA, HJA, HC5a, HC6a⟩
            · have tk : decide (k < ls.length) = false := decide_eq_false hkl
              have tk2 : decide ((k : Int) < (ls.length : Int)) = false := decide_eq_false (by omega)
              go_wp2_with fail
              go_meet
              case rel => exact ⟨0, rfl, ⟨by decide, by decide⟩, HVA, HJA, HC5a, HC6a⟩
          case rest =>
            clear HVA HJA HC5a HC6a
            obtain ⟨kk, rfl, HKK, HVC, HJC, HC5, HC6⟩ := hcut
            have c0 := blk_cell HVC.out.bv 0
            have c1 := blk_cell HVC.out.bv 1
            have c2' := blk_cell HVC.out.bv 2
            have c3' := blk_cell HVC.out.bv 3
            have j0 := blk_cell HJC.out 0
            have j1 := blk_cell HJC.out 1
            have j2 := blk_cell HJC.out 2
            have HLW := Aside0.mk (blk_lt HVC.out.bv)
            go_wp2_with (first | (go_at_call 12; refine (done_c (fun j => j ≠ w.heap.size) 1048576 1099511627776 nn kk _ Al' cl' At ct lt A5 c5 ins A6 c6 over inn out HINN.out HOUT.out _ HVC.out.fl HCT.out hln.out HC5.out HD5.out HIM.out HC6.out HD6.out HOM.out hn0 hn2 HKK.out.1 HKK.out.2 HCN.out HTT.out).mono ?_; rintro e w12 ⟨l3, A9, c9, rfl, hF9, hc9, hD9, hB12⟩; have HF9 := Aside0.mk hF9; have HC9 := Aside0.mk hc9; have HLAW := Aside0.mk (done_law (inJ ins over) HE.out hn0 hn2 HKK.out.1 HINN.out.symm HOUT.out.symm HJL.out.1 HJL.out.2 hD9); have HV12 := Aside0.mk (VP.to HVC.out hB12); clear hF9 hc9 hD9 hB12) | ((with_reducible refine gate_store (t := 25) (p := 3) (v := .tmp 61) rfl ?_); refine store4_event (cs := #[.int .i64 1048576, .int .i64 1099511627776, .slice none 0 0, .slice A9 l3.length c9]) rfl rfl rfl rfl rfl HV12.out.bv size25 rfl (by intro q hq; simp at hq; rcases hq with rfl | rfl | rfl | rfl <;> rfl) ?_; intro w13 hb13 hg13 hs13; have HV13 := Aside0.mk (VP.mk (grownB HV12.out.below hg13 (Nat.le_refl _)) hb13 (Kd.F_grown (Kd.F_mono HF9.out (fun j hj => (hj.elim (fun h => h) (fun h e => by have := HLW.out; omega) : j ≠ w.heap.size))) hg13 (fun j hj e => hj (Option.some.inj e)))); have HW3 := Aside0.mk (show wtL l3 + k + 2 ≤ bd ∧ 0 ≤ wtL l3 from ⟨by have := HLAW.out.2; have := HW.out; omega, wt_nn l3 (fun x hx => by have := HLAW.out.1.all x hx; exact ⟨this.2.2.2.2, this.2.2.2.1⟩)⟩); have tb : decide (bd ≤ (k : Int) + 1) = false := (decide_eq_false (by have := HW3.out; omega)); clear hb13 hg13 hs13))
            go_roundg (400 - k)
            case measure => exact HKQ.out
            case rel => exact ⟨k + 1, l3, none, 0, A9, c9, by go_num, ⟨by omega⟩, ⟨by omega⟩, ⟨HLAW.out.1⟩, ⟨by have := HW3.out; omega⟩, HC9, HV13⟩
      · have ht : decide ((k : Int) < 400) = false := decide_eq_false (by omega)
        have ht2 : decide (k < 400) = false := decide_eq_false hlt
        go_wp2
        go_ret
        exact ⟨rfl, HV.out.below⟩
end Go.Proofs.Ytgnmdhjnpbnacaa.PB
end
section
set_option linter.unusedVariables false
set_option linter.unusedSimpArgs false
namespace Go.Proofs.Ytgnmdhjnpbnacaa.PB
open Go.RowKit Go.Proofs.YtgnmdhjnpbnacaaW.PrintWords Go.Proofs.YtgnmdhjnpbnacaaW.PrintLast Go.Proofs.YtgnmdhjnpbnacaaW.PrintMore Go.Proofs.Ytgnmdhjnpbnacaa.Opn
theorem opens5 : Opens Try.prog 5 (Kd.int .u8) (fun n => 0 ≤ n ∧ n < 256) := by
  refine opens_imp (opens_int Try.underlying5) fun n h => ?_
  simp only [Lit.wf, Bool.and_eq_true, decide_eq_true_eq, IntKind.min, IntKind.max, IntKind.signed, IntKind.bits, if_true] at h
  simp at h
  omega
theorem opens27 : Opens Try.prog 27 (Kd.slice 5 (Kd.int .u8)) (fun l => l.length ≤ 140737488355328 ∧ ∀ x ∈ l, 0 ≤ x ∧ x < 256) :=
  opens_imp (opens_slice (B := 1) Try.underlying27 opens5 (by kernel_rfl) (by kernel_rfl)) fun l h => ⟨by omega, h.2.2⟩
theorem ends_w (v : S25) (A2 : Option Addr) (c2 : Nat) (A3 : Option Addr) (c3 : Nat) (l2 : v.f2.length ≤ c2) {w0 : World} (g2 : k57.C w0 A2 v.f2.length v.f2) (l3 : v.f3.length ≤ c3) (g3 : k47.C w0 A3 v.f3.length v.f3) (hG : v.f3.length ≤ 1353245080339 ∧ ∀ a ∈ v.f3, okT a) (two : Int) (_ : (Lit.int .u64 two).wf = true) (A4 : Option Addr) (c4 : Nat) (ls : List Int) (hC : Kd.C (Kd.int .u8) w0 A4 ls.length ls) (hc : ls.length ≤ c4) (hL : ls.length ≤ 140737488355328 ∧ ∀ x ∈ ls, 0 ≤ x ∧ x < 256) (w : World) (e : w0 = w := by rfl) :
    Calls Try.prog 3 #[.agg [.int .i64 v.f0, .int .i64 v.f1, .slice A2 v.f2.length c2, .slice A3 v.f3.length c3].toArray, .int .u64 two, .slice A4 ls.length c4] w fun e w' => e = .returned (.bool true) ∧ Below w.heap.size w w' := by
  subst e
  exact ends_c v.f0 v.f1 A2 c2 v.f2 A3 c3 v.f3 two A4 c4 ls w0 (by omega) g2 l2 (Kd.C_F k47_heap g3) l3 hG.2 hC hL.2 (by omega)
end Go.Proofs.Ytgnmdhjnpbnacaa.PB
end
