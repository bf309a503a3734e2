/- Layer 6, space: the walk of the statement SpaceOnce. -/
import Derived.Test.YtcfokcdmkhljoaaSpX
import Derived.Test.YtcfokcdmkhljoaaSpU
import Derived.Test.YtcfokcdmkhljoaaSpO
namespace Go.Proofs.Ytcfokcdmkhljoaa.Sp
open Go.RowKit Go.Proofs.YtcfokcdmkhljoaaW.PrintWords Go.Proofs.YtcfokcdmkhljoaaW.PrintLast Go.Proofs.YtcfokcdmkhljoaaW.PrintMore
open Go.Proofs.Ytcfokcdmkhljoaa.PSpaceRuns
set_option linter.unusedVariables false
set_option linter.unusedSimpArgs false

theorem opens38 : Opn.Opens Try.prog 38 (Kd.slice 5 (Kd.int .u8)) (fun l => l.length * 1 ≤ 140737488351232 ∧ l.length ≤ 9223372036854775807 ∧ ∀ a ∈ l, (Lit.int .u8 a).wf = true) :=
  Opn.opens_slice Try.underlying38 (Opn.opens_int Try.underlying5) (by kernel_rfl) (by kernel_rfl)
/-- the kind of a row of rows of pairs -/
def kLL : Kd (List S44) := Kd.slice 44 k44
theorem tyB {t : Nat} (ht : 4 ≠ t) : ∀ q, q ∈ 4 :: Kd.bool.E → q ≠ t := fun q hq => by
  have : q = 4 := by simpa [Kd.bool, Kd.scalar] using hq
  rw [this]; exact ht
theorem tyP {t : Nat} (ht : 44 ≠ t) : ∀ q, q ∈ 44 :: k44.E → q ≠ t := fun q hq => by
  have : q = 44 := by simpa [k44, Kd.iso, Kd.pair, Kd.int, Kd.scalar] using hq
  rw [this]; exact ht
theorem tyL {t : Nat} (h2 : 42 ≠ t) (h4 : 44 ≠ t) : ∀ q, q ∈ 42 :: kLL.E → q ≠ t := fun q hq => by
  have : q = 42 ∨ q = 44 := by simpa [kLL, Kd.slice, k44, Kd.iso, Kd.pair, Kd.int, Kd.scalar] using hq
  rcases this with rfl | rfl
  · exact h2
  · exact h4
theorem info42 : (Try.prog.info? 42).map (fun i => (i.zero, i.size, i.bytes)) = some (some (.slice none 0 0), 1, 24) := by kernel_rfl
/-- what holds throughout: the map, what is mine, what is held -/
structure OI (w W : World) (g p : Nat) (vm vh : Value) (T M : List Bool) (Hs : List (List S44)) : Prop where
  m : MapAt W g T p
  rm : Kd.R Kd.bool 4 W w.heap.size (fun _ => True) vm M
  rh : Kd.R kLL 42 W w.heap.size (fun _ => True) vh Hs
  hg : w.heap.size ≤ g
  hb : Below w.heap.size w W
theorem R_turn {α : Type} {d : Kd α} {e base g : Nat} {W W' : World} {v : Value} {xs : List α} {cs : Array Value} {t : Nat} (h : d.R e W base (fun _ => True) v xs) (hb : W.heap[g]? = some (.cells cs t (0, 0))) (ht : ∀ q, q ∈ e :: d.E → q ≠ t) (hg : W.grownBy W' (some g)) : d.R e W' base (fun _ => True) v xs :=
  Kd.R_mono (Kd.R_grown (Kd.R_types h hb ht) hg (fun k hk he => by injection he with he; exact hk.2 he)) (fun _ _ => trivial)
theorem OI.turn {w W W' : World} {g p : Nat} {vm vh : Value} {T T' M : List Bool} {Hs : List (List S44)} (h : OI w W g p vm vh T M Hs) (hm : MapAt W' g T' p) (hg : W.grownBy W' (some g)) : OI w W' g p vm vh T' M Hs :=
  ⟨hm, R_turn h.rm h.m.blk (tyB (by decide)) hg, R_turn h.rh h.m.blk (tyL (by decide) (by decide)) hg, h.hg, pw_below_grown h.hb _ h.hb.size hg (fun k e => by injection e with e; have := h.hg; omega)⟩
theorem OI.below {w W W' : World} {g p : Nat} {vm vh : Value} {T M : List Bool} {Hs : List (List S44)} (h : OI w W g p vm vh T M Hs) (hb : Below W.heap.size W W') : OI w W' g p vm vh T M Hs :=
  ⟨h.m.below hb, Kd.R_below h.rm hb, Kd.R_below h.rh hb, h.hg, below_step h.hb hb⟩
/-- a plot of mine is set -/
theorem OI.put {w W : World} {g p gm n cm : Nat} {vh : Value} {T M : List Bool} {Hs : List (List S44)} (h : OI w W g p (.slice (some ⟨gm, 0, none⟩) n cm) vh T M Hs) (i : Int) (b : Bool) (h0 : 0 ≤ i) (hi : i < n) :
    OI w (W.setCell ⟨gm, i.toNat, none⟩ (.bool b)) g p (.slice (some ⟨gm, 0, none⟩) n cm) vh T (M.set i.toNat b) Hs ∧ W.cell? ⟨gm, i.toNat, none⟩ = some (.bool (rdOf false M i)) ∧ W.frozen? ⟨gm, i.toNat, none⟩ = false := by
  obtain ⟨c1, c2⟩ := Kd.R_celln false h.rm i h0 hi
  obtain ⟨cells, hcells⟩ := Kd.R_typed h.rm gm rfl
  have hgm : w.heap.size ≤ gm := Kd.R_base h.rm gm rfl
  exact ⟨⟨⟨h.m.len, h.m.few, blk_far h.m.blk (p := ⟨gm, i.toNat, none⟩) (blk_ne h.m.blk hcells (by decide)) _⟩, Kd.R_putn h.rm i b, Kd.R_set h.rh hcells (tyL (by decide) (by decide)) i.toNat (.bool b), h.hg, below_set h.hb hgm⟩, c1, c2⟩
theorem mine_form {base p : Nat} {ok : Nat → Prop} {W : World} {vm : Value} {M : List Bool} (h : Kd.R Kd.bool 4 W base ok vm M) (hp : 0 < M.length) : ∃ gm cm, vm = .slice (some ⟨gm, 0, none⟩) M.length cm := by
  obtain ⟨g, c, e, _⟩ := Kd.R_form h hp
  exact ⟨g, c, e⟩
/-- a row that is held, as a value -/
theorem held_at {base : Nat} {ok : Nat → Prop} {W : World} {A : Option Addr} {n c : Nat} {Hs : List (List S44)} (h : Kd.R kLL 42 W base ok (.slice A n c) Hs) (k : Nat) (hk : k < n) : ∃ ad A' c', A = some ad ∧ k < Hs.length ∧ W.cell? (ad.add k) = some (.slice A' (Hs.getD k []).length c') ∧ (Hs.getD k []).length ≤ c' ∧ Kd.C k44 W A' (Hs.getD k []).length (Hs.getD k []) := by
  obtain ⟨e1, _, hC⟩ := Kd.R_reads' h
  obtain ⟨ad, cs, e, _, ⟨A', c', rfl, hl, hC2⟩, hc0⟩ := Kd.C_get hC [] (k : Int) (by omega) (by omega)
  rw [Int.toNat_natCast] at hl hC2 hc0
  have hsz : kLL.sz = 1 := rfl
  rw [hsz, Nat.mul_one] at hc0
  exact ⟨ad, A', c', e, by omega, hc0 0 _ rfl, hl, hC2⟩
theorem OI.dropk {w W : World} {g p gh n ch : Nat} {vm : Value} {T M : List Bool} {Hs : List (List S44)} (h : OI w W g p vm (.slice (some ⟨gh, 0, none⟩) n ch) T M Hs) (kk : Nat) (hk : kk < n) :
    OI w (W.setCell ⟨gh, kk, none⟩ (.slice none 0 0)) g p vm (.slice (some ⟨gh, 0, none⟩) n ch) T M (Hs.set kk []) ∧ W.frozen? ⟨gh, kk, none⟩ = false := by
  obtain ⟨cells, hcells⟩ := Kd.R_typed h.rh gh rfl
  have hgh : w.heap.size ≤ gh := Kd.R_base h.rh gh rfl
  obtain ⟨ad, A', c', e, hkl, hc, _, _⟩ := held_at h.rh kk hk
  injection e with e
  subst e
  rw [add_plain] at hc
  have h1 := (Kd.R_seg (okp := fun _ => False) h.rh (kk : Int) (by omega) (by omega) (c := [.slice A' (Hs.getD kk []).length c']) (seg := [.slice none 0 0]) (j := 0) (x' := []) rfl (fun j u hj => by
    have hsz : kLL.sz = 1 := rfl
    rw [Int.toNat_natCast, hsz, Nat.mul_one]
    cases j with
    | zero => injection hj with hj; rw [← hj]; exact hc
    | succ j => simp at hj) (Nat.le_refl _) ⟨.slice none 0 0, rfl, Kd.R_nil _ _ _ _ _⟩ (fun _ hk => hk.elim)).1
  have hsz : kLL.sz = 1 := rfl
  rw [Int.toNat_natCast, hsz, Nat.mul_one] at h1
  exact ⟨⟨⟨h.m.len, h.m.few, blk_far h.m.blk (p := ⟨gh, kk, none⟩) (blk_ne h.m.blk hcells (by decide)) _⟩, Kd.R_set h.rm hcells (tyB (by decide)) kk _, h1, h.hg, below_set h.hb hgh⟩, blk_frozen hcells kk⟩
/-- a row that is held, in a world that differs in other blocks -/
theorem held_same {W W_ : World} {base gh n ch : Nat} {ok : Nat → Prop} {Hs : List (List S44)} {A' : Option Addr} {c' kk : Nat} {L : List S44} (h : Kd.R kLL 42 W_ base ok (.slice (some ⟨gh, 0, none⟩) n ch) Hs) (hk : kk < n) (hL : L = Hs.getD kk []) (hc : W.cell? ⟨gh, kk, none⟩ = some (.slice A' L.length c')) (hs : W_.heap[gh]? = W.heap[gh]?) :
    W_.cell? ⟨gh, kk, none⟩ = some (.slice A' L.length c') ∧ Kd.C k44 W_ A' L.length L := by
  have hc2 : W_.cell? ⟨gh, kk, none⟩ = some (.slice A' L.length c') := (World.cell?_of_block (a := ⟨gh, kk, none⟩) hs).trans hc
  obtain ⟨ad, A2, c2, e, hkl, hc3, _, hC⟩ := held_at h kk hk
  injection e with e
  subst e
  rw [add_plain, ← hL] at hc3
  rw [← hL] at hC
  rw [hc2] at hc3
  injection hc3 with hc3
  injection hc3 with q1 q2 q3
  subst q1
  exact ⟨hc2, hC⟩
theorem OI.gh_ne {w W : World} {g p gh n ch : Nat} {vm : Value} {T M : List Bool} {Hs : List (List S44)} (h : OI w W g p vm (.slice (some ⟨gh, 0, none⟩) n ch) T M Hs) : gh < W.heap.size ∧ gh ≠ g := by
  obtain ⟨cells, hcells⟩ := Kd.R_typed h.rh gh rfl
  exact ⟨blk_lt hcells, blk_ne hcells h.m.blk (by decide)⟩
theorem OI.gm_ne {w W : World} {g p gh gm n m ch cm : Nat} {T M : List Bool} {Hs : List (List S44)} (h : OI w W g p (.slice (some ⟨gm, 0, none⟩) m cm) (.slice (some ⟨gh, 0, none⟩) n ch) T M Hs) : gh ≠ gm := by
  obtain ⟨cells, hcells⟩ := Kd.R_typed h.rh gh rfl
  obtain ⟨cells2, hcells2⟩ := Kd.R_typed h.rm gm rfl
  exact blk_ne hcells hcells2 (by decide)
set_option maxHeartbeats 16000000 in
set_option maxRecDepth 100000 in
theorem once_walk (a0 : Int) (w0 : (Lit.int .u16 a0).wf = true) (A1 : Option Addr) (cp1 : Nat) (l1 : List Int) {w : World} (hC1 : Kd.C (Kd.int .u8) w A1 l1.length l1) (hc1 : l1.length ≤ cp1) (hG1 : l1.length * 1 ≤ 140737488351232 ∧ l1.length ≤ 9223372036854775807 ∧ ∀ a ∈ l1, (Lit.int .u8 a).wf = true)
    (A2 : Option Addr) (cp2 : Nat) (l2 : List Int) (hC2 : Kd.C (Kd.int .u8) w A2 l2.length l2) (hc2 : l2.length ≤ cp2) (hG2 : l2.length * 1 ≤ 140737488351232 ∧ l2.length ≤ 9223372036854775807 ∧ ∀ a ∈ l2, (Lit.int .u8 a).wf = true) (_w : World) :
    Calls Try.prog 4 #[.int .u16 a0, .slice A1 l1.length cp1, .slice A2 l2.length cp2] w fun e w' => e = .returned (.bool true) ∧ Below w.heap.size w w' := by
  obtain ⟨b0, b1⟩ := u16_bd w0
  have hn0 : 0 ≤ a0 % 700 := by omega
  have hn1 : a0 % 700 ≤ 4096 := by omega
  have hnp := nplots_le hn1
  have hlm1 := hG1.2.1
  have hlm2 := hG2.2.1
  have HG1 := Aside0.mk hG1
  have HG2 := Aside0.mk hG2
  have HC1 := Aside0.mk hC1
  have HC2 := Aside0.mk hC2
  obtain ⟨p, hp⟩ : ∃ p, p = nplots (a0 % 700) := ⟨_, rfl⟩
  rw [← hp] at hnp
  have HP := Aside0.mk hp
  clear hG1 hC1 hG2 hC2 w0 hp
  go_enter Try.func4, Try.ntmps4
  go_wp2_with fail
  refine (new_is (a0 % 700) hn0 hn1).mono ?_
  rintro e w1 ⟨g, hg, rfl, hm1, hB1⟩
  rw [← HP.out] at hm1
  have HM1 := Aside0.mk hm1
  have HGG := Aside0.mk hg
  have HB1 := Aside0.mk hB1
  clear hm1 hg hB1
  go_wp2_with fail
  refine (awake_is _).mono ?_
  rintro e w2 ⟨rfl, hB2⟩
  have HM2 := Aside0.mk (HM1.out.below hB2)
  have HB2 := Aside0.mk (below_step HB1.out hB2)
  clear hB2 HM1 HB1
  go_wp2_with fail
  refine (len_is HM2.out).mono ?_
  rintro e w3 ⟨rfl, hD3⟩
  have HM3 := Aside0.mk (HM2.out.below hD3.below)
  have HB3 := Aside0.mk (below_step HB2.out hD3.below)
  clear hD3 HM2 HB2
  go_wp2_with (first | ((with_reducible refine gate_dst (N := 40) rfl ?_); refine Kd.R_make Kd.bool (w0 := w3) w3.heap.size 4 rfl (N := 40) rfl 29 (.tmp 39) (.tmp 39) rfl (p : Int) rfl rfl Try.underlying29 (.bool false) 1 info4 rfl (by decide) (by decide) false (okp := fun _ => True) (ok := fun _ => True) rfl (fun _ _ => trivial) trivial (by omega) (by omega) (Below.refl _ _) (Nat.le_refl _) ?_; rw [Int.toNat_natCast]; intro vm w4 hRm hBm _ _; have HRm := Aside0.mk hRm; have HBm := Aside0.mk hBm; clear hRm hBm))
  obtain ⟨M0, hM0⟩ : ∃ M0 : List Bool, M0 = zT.take p := ⟨_, rfl⟩
  have hr0 := HRm.out
  rw [← zT_take p hnp, ← hM0] at hr0
  obtain ⟨Am, cm, rfl⟩ := Kd.R_slice hr0
  have hM0l : M0.length = p := by rw [hM0, zT_take p hnp, List.length_replicate]
  have HR0 := Aside0.mk hr0
  have HM0 := Aside0.mk hM0
  have HM0L := Aside0.mk hM0l
  clear hr0 hM0 HRm
  rw [hM0l]
  clear hM0l
  have HOI : Aside0 (OI w w4 g p (.slice Am p cm) (.slice none 0 0) zT (zT.take p) []) := ⟨⟨HM3.out.below HBm.out, by have h := HR0.out; rw [HM0L.out, HM0.out] at h; exact Kd.R_lower h HB3.out.size, Kd.R_nil _ _ _ _ _, HGG.out, below_step HB3.out HBm.out⟩⟩
  clear HM3 HB3 HR0 HM0 HM0L HBm HGG
  go_wp2_with fail
  go_loopg [10, 11] (l1.length + 1) (fun kq v10 v11 W => ∃ (i : Nat) (T : List Bool) (Hs : List (List S44)), v11 = .int .i64 i ∧ Aside0 (kq + i = l1.length + 1) ∧ Aside0 (0 < kq) ∧ Aside0 (OI w W g p (.slice Am p cm) v10 T (T.take p) Hs) ∧ Aside0 (HInv p T Hs) ∧ Aside0 (Hs.length ≤ i))
  case atStart => exact ⟨0, zT, [], rfl, ⟨rfl⟩, ⟨by omega⟩, HOI, ⟨HInv.nil p zT⟩, ⟨by simp⟩⟩
  case round =>
    clear HOI
    obtain ⟨i, T, Hs, rfl, HI, HZ, HO, HH, HL⟩ := hrel
    have hlH := HL.out
    obtain ⟨Ah, ch, rfl⟩ := Kd.R_slice HO.out.rh
    obtain ⟨nH, hnH⟩ : ∃ n, n = Hs.length := ⟨_, rfl⟩
    have HNH := Aside0.mk hnH
    have ho_ := HO.out
    rw [← hnH] at ho_ hlH ⊢
    clear HO
    have HO := Aside0.mk ho_
    clear ho_ hnH
    by_cases hi : i < l1.length ∧ i < 60
    · obtain ⟨hi1, hi60⟩ := hi
      obtain ⟨k1, rfl⟩ : ∃ k1, gk = k1 + 1 := ⟨gk - 1, by have := HZ.out; omega⟩
      obtain ⟨adt, rfl, hxt⟩ := Kd.at_int (Kd.C_below HC1.out HO.out.hb) (i : Int) (by omega) (by omega)
      obtain ⟨adt2, e2, hxt0⟩ := Kd.at_int HC1.out (i : Int) (by omega) (by omega)
      cases e2
      simp only [Int.toNat_natCast] at hxt hxt0
      have hbt := HG1.out.2.2 (rd l1 (i : Int)) (by unfold rd; rw [Int.toNat_natCast, List.getD_eq_getElem?_getD, List.getElem?_eq_getElem hi1]; exact List.getElem_mem hi1)
      simp only [Lit.wf, Bool.and_eq_true, decide_eq_true_eq, IntKind.min, IntKind.max, IntKind.signed, IntKind.bits] at hbt
      simp at hbt
      generalize rd l1 (i : Int) = x at *
      obtain ⟨hx0, hx1⟩ := hbt
      have HXT := Aside0.mk hxt0
      have hn8 : x % 9 ≤ 64 := by omega
      have hn80 : 0 ≤ x % 9 := by omega
      clear hxt hxt0
      by_cases hb : i < l2.length ∧ 0 < nH
      · obtain ⟨hb1, hb2⟩ := hb
        obtain ⟨adb, rfl, hxb⟩ := Kd.at_int (Kd.C_below HC2.out HO.out.hb) (i : Int) (by omega) (by omega)
        simp only [Int.toNat_natCast] at hxb
        have hbb := HG2.out.2.2 (rd l2 (i : Int)) (by unfold rd; rw [Int.toNat_natCast, List.getD_eq_getElem?_getD, List.getElem?_eq_getElem hb1]; exact List.getElem_mem hb1)
        simp only [Lit.wf, Bool.and_eq_true, decide_eq_true_eq, IntKind.min, IntKind.max, IntKind.signed, IntKind.bits] at hbb
        simp at hbb
        generalize rd l2 (i : Int) = x2 at *
        obtain ⟨hx20, hx21⟩ := hbb
        obtain ⟨gh, ch2, eh⟩ : ∃ gh ch2, (Value.slice Ah nH ch) = .slice (some ⟨gh, 0, none⟩) nH ch2 := by
          obtain ⟨q1, q2, q3, _⟩ := Kd.R_form HO.out.rh (by have := HNH.out; omega)
          rw [← HNH.out] at q3; exact ⟨q1, q2, q3⟩
        injection eh with eh1 eh2 eh3
        subst eh1 eh3
        have hm0 : 0 ≤ x2 % (nH : Int) := Int.emod_nonneg _ (by omega)
        have hm1 : x2 % (nH : Int) < (nH : Int) := Int.emod_lt_of_pos _ (by omega)
        obtain ⟨kk, hkk⟩ : ∃ kk : Nat, kk = (x2 % (nH : Int)).toNat := ⟨_, rfl⟩
        have hkl : kk < nH := by omega
        obtain ⟨adh, A', c', eadh, _, hcell, hcl', hCL⟩ := held_at HO.out.rh kk hkl
        injection eadh with eadh
        subst eadh
        rw [add_plain] at hcell
        obtain ⟨T2, hg2, hl2, hi2⟩ := give_held hnp HO.out.m.len HH.out kk (by have := HNH.out; omega)
        have hkl2 : kk < Hs.length := by have := HNH.out; omega
        have eL : Hs[kk] = Hs.getD kk [] := by rw [List.getD_eq_getElem?_getD, List.getElem?_eq_getElem hkl2]; rfl
        rw [eL] at hg2
        obtain ⟨L, hL⟩ : ∃ L, L = Hs.getD kk [] := ⟨_, rfl⟩
        rw [← hL] at hg2 hcell hcl'
        have HLd := Aside0.mk hL
        have HG2' := Aside0.mk hg2
        have HL2 := Aside0.mk hl2
        have HI2 := Aside0.mk hi2
        have HKL := Aside0.mk hkl
        have hT := Aside0.mk HO.out.m.len
        have hLm : L.length ≤ 9223372036854775807 := by rw [hL]; exact Kd.C_max hCL
        rw [hkk] at hcell
        have hne0 : ¬ (nH : Int) = 0 := by omega
        clear hg2 hl2 hi2 eL hCL hL hkl hkl2
        have HKK := Aside0.mk hkk
        clear hkk
        go_wp2_with fail
        generalize x2 % (nH : Int) = r at *
        obtain rfl : kk = r.toNat := HKK.out
        have HCE := Aside0.mk hcell
        clear hcell HKK
        refine (give_e HO.out.m A' c' L (fun W_ hg => (held_same (R_turn HO.out.rh HO.out.m.blk (tyL (by decide) (by decide)) hg) HKL.out HLd.out HCE.out (hg.block _ HO.out.gh_ne.1 (fun e => HO.out.gh_ne.2 (by injection e)))).2) hcl' 0 T2 (.inr ⟨HG2'.out, rfl⟩)).mono ?_
        rintro e w5 ⟨rfl, hm5, hg5⟩
        have HO5 := Aside0.mk (HO.out.turn hm5 hg5)
        have hc5 := (held_same HO5.out.rh HKL.out HLd.out HCE.out (hg5.block _ HO.out.gh_ne.1 (fun e => HO.out.gh_ne.2 (by injection e)))).1
        have HC5 := Aside0.mk hc5
        clear hm5 hg5 HO hxb hc5 HCE
        go_wp2_with fail
        go_loopg [13] (L.length + 1) (fun kq v13 W => ∃ (j : Nat) (Tj : List Bool), v13 = .int .i64 j ∧ Aside0 (kq + j = L.length + 1) ∧ Aside0 (0 < kq) ∧ Aside0 (OI w W g p (.slice Am p cm) (.slice (some ⟨gh, 0, none⟩) nH ch) T2 (Tj.take p) Hs) ∧ Aside0 (Tj.length = 511) ∧ Aside0 (allR false 62 p (L.drop j) Tj = .ok T2) ∧ Aside0 (W.cell? ⟨gh, r.toNat, none⟩ = some (.slice A' L.length c')))
        case atStart => exact ⟨0, T, rfl, ⟨by omega⟩, ⟨by omega⟩, HO5, hT, HG2', HC5⟩
        case round =>
          clear HO5 HC5
          obtain ⟨j, Tj, rfl, HJ, HK, HOj, HTl, HA, HCj⟩ := hrel
          obtain ⟨k2, rfl⟩ : ∃ k2, gk = k2 + 1 := ⟨gk - 1, by have := HK.out; omega⟩
          have hcj := HCj.out
          by_cases hj : j < L.length
          · have ha := HA.out
            rw [drop_rd L j hj] at ha
            obtain ⟨q0, q1, q2, q3, q4, q5, q6⟩ := pair_ok HTl.out hnp ha
            have hCj := (held_same HOj.out.rh HKL.out HLd.out hcj rfl).2
            have hMl : (Tj.take p).length = p := take_len HTl.out hnp
            obtain ⟨gm, cm2, em⟩ := mine_form (p := p) HOj.out.rm (by omega)
            rw [hMl] at em
            injection em with em1 em2 em3
            subst em1 em3
            obtain ⟨o1, o2, o3⟩ := HOj.out.put (rd_T44 L (j : Int)).f0 false q0 q1
            obtain ⟨o4, o5, o6⟩ := o1.put (rd_T44 L (j : Int)).f1 false q2 q3
            have hne := HOj.out.gm_ne
            have hs1 : (wr.setCell ⟨gm, (rd_T44 L (j : Int)).f0.toNat, none⟩ (.bool false)).heap[gh]? = wr.heap[gh]? := Below.heap_setCell wr ⟨gm, _, none⟩ _ gh hne
            obtain ⟨hc1, hC1'⟩ := held_same o1.rh HKL.out HLd.out hcj hs1
            have hs2 : ((wr.setCell ⟨gm, (rd_T44 L (j : Int)).f0.toNat, none⟩ (.bool false)).setCell ⟨gm, (rd_T44 L (j : Int)).f1.toNat, none⟩ (.bool false)).heap[gh]? = wr.heap[gh]? := (Below.heap_setCell _ ⟨gm, _, none⟩ _ gh hne).trans hs1
            have HC6 := Aside0.mk (held_same o4.rh HKL.out HLd.out hcj hs2).1
            obtain ⟨adp, rfl, hy0, _⟩ := at_T44 hCj (j : Int) (by omega) (by omega)
            obtain ⟨adp2, e2, _, hy1⟩ := at_T44 hC1' (j : Int) (by omega) (by omega)
            cases e2
            simp only [Int.toNat_natCast] at hy0 hy1
            clear ha hCj hC1' hMl hs1 hs2 hne q4 q5
            generalize rd_T44 L (j : Int) = y at *
            have HO2 : Aside0 (OI w ((wr.setCell ⟨gm, y.f0.toNat, none⟩ (.bool false)).setCell ⟨gm, y.f1.toNat, none⟩ (.bool false)) g p (.slice (some ⟨gm, 0, none⟩) p cm) (.slice (some ⟨gh, 0, none⟩) nH ch) T2 (((Tj.set y.f0.toNat false).set y.f1.toNat false).take p) Hs) := ⟨by rw [set_take, set_take]; exact o4⟩
            have HA2 := Aside0.mk q6
            have HTl2 : Aside0 (((Tj.set y.f0.toNat false).set y.f1.toNat false).length = 511) := ⟨by simp [HTl.out]⟩
            have hj0 : (0 : Int) ≤ (j : Int) := by omega
            have hj1 : (j : Int) < (L.length : Int) := by omega
            clear o1 o4 q6 HOj HA HCj
            go_wp2_with fail
            go_roundg k2
            case measure => omega
            case rel => exact ⟨j + 1, _, by simp, ⟨by have := HJ.out; omega⟩, ⟨by have := HJ.out; omega⟩, HO2, HTl2, HA2, HC6⟩
          · have ej : j = L.length := by have := HJ.out; omega
            have ha := HA.out
            rw [ej, List.drop_length] at ha
            injection ha with ha
            rw [ha] at HOj
            obtain ⟨d1, d2⟩ := HOj.out.dropk r.toNat HKL.out
            obtain ⟨Hs2, hHs2⟩ : ∃ Hs2, Hs2 = Hs.set r.toNat [] := ⟨_, rfl⟩
            rw [← hHs2] at d1
            have HO := Aside0.mk d1
            have hi2 := HI2.out
            rw [← hHs2] at hi2
            have HH2 := Aside0.mk hi2
            have HL2' : Aside0 (Hs2.length ≤ i) := ⟨by rw [hHs2]; simp; exact HL.out⟩
            have HNH2 : Aside0 (nH = Hs2.length) := ⟨by rw [hHs2]; simp; exact HNH.out⟩
            clear d1 ha ej hHs2 hi2 HOj HA HNH HH HL hT
            have HH := HH2
            have HNH := HNH2
            have hxt := pw_cell_below HO.out.hb HXT.out
            by_cases hsp : (p : Int) - (tkN T2 p).length < 2 * (x % 9)
            ·
              go_wp2_with fail
              refine (take_space HO.out.m (x % 9) hn80 hn8 hsp).mono ?_
              rintro e w5 ⟨rfl, hB5⟩
              have HO5 := Aside0.mk (HO.out.below hB5)
              clear hB5 hxt
              go_wp2
              go_roundg k1
              case measure => omega
              case rel => exact ⟨i + 1, T2, Hs2, by simp, ⟨by have := HI.out; omega⟩, ⟨by have := HI.out; omega⟩, HO5, HH, ⟨by have := HL2'.out; omega⟩⟩
            ·
              obtain ⟨T', out, ht⟩ : ∃ T' out, takeL p (x % 9) (p + 1) T2 (-1) 0 [] = (T', out) := ⟨_, _, rfl⟩
              obtain ⟨hcl, hlt⟩ := take_claims p hnp (x % 9) hn80 T2 HO.out.m.len (by omega) T' out ht
              have HCL := Aside0.mk hcl
              have HLT := Aside0.mk hlt
              have HT := Aside0.mk ht
              have hout : out.length ≤ 512 := by have := takeL_few p (x % 9) (p + 1) T2 (-1) 0 []; rw [ht] at this; simp at this; omega
              clear hcl hlt ht
              go_wp2_with fail
              refine (take_ok HO.out.m (x % 9) hn80 hn8 (by omega) T' out HT.out).mono ?_
              rintro e w5 ⟨v5, rfl, hR5, hm5, hg5⟩
              obtain ⟨A5, c5, rfl⟩ := Kd.R_slice hR5
              have HP5 := Aside0.mk (Kd.R_lower hR5 HO.out.hb.size)
              have HO5 := Aside0.mk (HO.out.turn hm5 hg5)
              have HLEN := Aside0.mk HO.out.m.len
              clear hR5 hm5 hg5 hxt
              go_wp2_with fail
              go_loopg [16] (out.length + 1) (fun kq v16 W => ∃ (j : Nat) (Tj : List Bool), v16 = .int .i64 j ∧ Aside0 (kq + j = out.length + 1) ∧ Aside0 (0 < kq) ∧ Aside0 (OI w W g p (.slice Am p cm) (.slice (some ⟨gh, 0, none⟩) nH ch) T' (Tj.take p) Hs2) ∧ Aside0 (Tj.length = 511) ∧ Aside0 (allR true 61 p (out.drop j) Tj = .ok T') ∧ Aside0 (Kd.R k44 44 W w.heap.size (fun _ => True) (.slice A5 out.length c5) out))
              case atStart => exact ⟨0, T2, rfl, ⟨by omega⟩, ⟨by omega⟩, HO5, HLEN, HCL, HP5⟩
              case round =>
                clear HO5 HP5 HO
                obtain ⟨j, Tj, rfl, HJ, HK, HOj, HTl, HA, HPj⟩ := hrel
                obtain ⟨k2, rfl⟩ : ∃ k2, gk = k2 + 1 := ⟨gk - 1, by have := HK.out; omega⟩
                by_cases hj : j < out.length
                · have ha := HA.out
                  rw [drop_rd out j hj] at ha
                  obtain ⟨q0, q1, q2, q3, q4, q5, q6⟩ := pair_ok HTl.out hnp ha
                  obtain ⟨adp, rfl, hy0, hy1⟩ := at_T44 (Kd.R_reads' HPj.out).2.2 (j : Int) (by omega) (by omega)
                  have hord := HLT.out (rd_T44 out (j : Int)) (by unfold rd_T44; rw [Int.toNat_natCast, List.getD_eq_getElem?_getD, List.getElem?_eq_getElem hj]; exact List.getElem_mem hj)
                  simp only [Int.toNat_natCast] at hy0 hy1
                  clear ha
                  generalize rd_T44 out (j : Int) = y at *
                  have hMl : (Tj.take p).length = p := take_len HTl.out hnp
                  obtain ⟨gm, cm2, em⟩ := mine_form (p := p) HOj.out.rm (by omega)
                  rw [hMl] at em
                  injection em with em1 em2 em3
                  subst em1 em3
                  obtain ⟨o1, o2, o3⟩ := HOj.out.put y.f0 true q0 q1
                  obtain ⟨o4, o5, o6⟩ := o1.put y.f1 true q2 q3
                  obtain ⟨_, o7, _⟩ := HOj.out.put y.f1 true q2 q3
                  have er0 : rdOf false (Tj.take p) y.f0 = false := by unfold rdOf; rw [getD_take Tj p _ (by omega)]; exact q4
                  have er1 : rdOf false (Tj.take p) y.f1 = false := by unfold rdOf; rw [getD_take Tj p _ (by omega)]; exact q5
                  rw [er0] at o2
                  rw [er1] at o7
                  obtain ⟨cells, hcells⟩ := Kd.R_typed HOj.out.rm gm rfl
                  have HP2 := Aside0.mk (Kd.R_set (Kd.R_set HPj.out hcells (tyP (by decide)) y.f0.toNat (.bool true)) (blk_set hcells y.f0.toNat (.bool true)) (tyP (by decide)) y.f1.toNat (.bool true))
                  have HO2 : Aside0 (OI w ((wr.setCell ⟨gm, y.f0.toNat, none⟩ (.bool true)).setCell ⟨gm, y.f1.toNat, none⟩ (.bool true)) g p (.slice (some ⟨gm, 0, none⟩) p cm) (.slice (some ⟨gh, 0, none⟩) nH ch) T' (((Tj.set y.f0.toNat true).set y.f1.toNat true).take p) Hs2) := ⟨by rw [set_take, set_take]; exact o4⟩
                  have HA2 := Aside0.mk q6
                  have HTl2 : Aside0 (((Tj.set y.f0.toNat true).set y.f1.toNat true).length = 511) := ⟨by simp [HTl.out]⟩
                  have hj0 : (0 : Int) ≤ (j : Int) := by omega
                  have hj1 : (j : Int) < (out.length : Int) := by omega
                  have hle1 : ¬ y.f1 ≤ y.f0 := by omega
                  have hd1 : decide (y.f0 < 0) = false := by simp; omega
                  have hd2 : decide (y.f1 ≤ y.f0) = false := by simp; omega
                  have hd3 : decide ((p : Int) ≤ y.f1) = false := by simp; omega
                  clear o1 o4 o5 er0 er1 hMl q4 q5 q6 hcells HOj HPj HA
                  go_wp2_with fail
                  go_quiet (fail)
                  go_wp2_with fail
                  go_roundg k2
                  case measure => omega
                  case rel => exact ⟨j + 1, _, by simp, ⟨by have := HJ.out; omega⟩, ⟨by have := HJ.out; omega⟩, ⟨HO2.out.below (pw_below_drewN (Below.refl _ _) nq)⟩, HTl2, HA2, ⟨Kd.R_drewN HP2.out nq⟩⟩
                · have ej : j = out.length := by have := HJ.out; omega
                  have ha := HA.out
                  rw [ej, List.drop_length] at ha
                  injection ha with ha
                  rw [ha] at HOj
                  have hnxt := Aside0.mk (take_held hnp HLEN.out HH.out HCL.out)
                  have hHl : ((Hs2.length + 1) * 24 ≤ 140737488355328) := by have := HL2'.out; omega
                  clear ha ej
                  go_wp2_with (first | ((with_reducible refine gate_builtin (b := .append) (xs := #[.tmp 167, .tmp 169]) rfl ?_); at_builtin; refine Kd.R_append kLL (w0 := wr) w.heap.size rfl (.tmp 167) (.tmp 169) 40 42 (.slice none 0 0) 24 rfl Try.underlying40 info42 rfl (by decide) (by omega) (.slice (some ⟨gh, 0, none⟩) nH ch) Hs2 out [.slice A5 out.length c5] (fun _ => True) (fun k_ => True ∧ some k_ ≠ (Value.slice (some ⟨gh, 0, none⟩) nH ch).ownBlock) rfl rfl ?aP (fun _ hk => hk) ?aF ?aO ?aB ?aS ?aL ?_; (case aP => exact ⟨_, rfl, Kd.R_apart' HPj.out (Kd.R_typed HOj.out.rh) (tyP (by decide))⟩); (case aB => exact Below.refl _ _); (case aF => exact (fun _ _ => trivial)); (case aO => exact HOj.out.rh); (case aS => exact HOj.out.hb.size); (case aL => exact hHl); intro v109 w9 ho hb9 hg9 hat9; have n1_ := Aside0.mk ho; have n2_ := Aside0.mk (HOj.out.m.grown hg9 (Kd.R_ne HOj.out.rh HOj.out.m.blk (by decide))); have n3_ := Aside0.mk (Kd.R_over HOj.out.rm HOj.out.rh (tyB (by decide)) hg9); have n4_ := Aside0.mk (show Below w.heap.size w w9 from pw_below_grown HOj.out.hb _ HOj.out.hb.size hg9 (fun b hb => Kd.R_base HOj.out.rh b hb)); clear ho hb9 hg9 hat9))
                  go_roundg k1
                  case measure => omega
                  case rel => exact ⟨i + 1, T', Hs2 ++ [out], by simp, ⟨by have := HI.out; omega⟩, ⟨by have := HI.out; omega⟩, ⟨⟨n2_.out, n3_.out, n1_.out, HOj.out.hg, n4_.out⟩⟩, hnxt, ⟨by simp; exact HL2'.out⟩⟩
      · by_cases hb1 : i < l2.length
        ·
          have hb2 : ¬ 0 < nH := fun h => hb ⟨hb1, h⟩
          have hb4 : ¬ (0 : Int) < (nH : Int) := by omega
          have hxt := pw_cell_below HO.out.hb HXT.out
          by_cases hsp : (p : Int) - (tkN T p).length < 2 * (x % 9)
          ·
            go_wp2_with fail
            refine (take_space HO.out.m (x % 9) hn80 hn8 hsp).mono ?_
            rintro e w5 ⟨rfl, hB5⟩
            have HO5 := Aside0.mk (HO.out.below hB5)
            clear hB5 hxt
            go_wp2
            go_roundg k1
            case measure => omega
            case rel => exact ⟨i + 1, T, Hs, by simp, ⟨by have := HI.out; omega⟩, ⟨by have := HI.out; omega⟩, HO5, HH, ⟨by have := HL.out; omega⟩⟩
          ·
            obtain ⟨T', out, ht⟩ : ∃ T' out, takeL p (x % 9) (p + 1) T (-1) 0 [] = (T', out) := ⟨_, _, rfl⟩
            obtain ⟨hcl, hlt⟩ := take_claims p hnp (x % 9) hn80 T HO.out.m.len (by omega) T' out ht
            have HCL := Aside0.mk hcl
            have HLT := Aside0.mk hlt
            have HT := Aside0.mk ht
            have hout : out.length ≤ 512 := by have := takeL_few p (x % 9) (p + 1) T (-1) 0 []; rw [ht] at this; simp at this; omega
            clear hcl hlt ht
            go_wp2_with fail
            refine (take_ok HO.out.m (x % 9) hn80 hn8 (by omega) T' out HT.out).mono ?_
            rintro e w5 ⟨v5, rfl, hR5, hm5, hg5⟩
            obtain ⟨A5, c5, rfl⟩ := Kd.R_slice hR5
            have HP5 := Aside0.mk (Kd.R_lower hR5 HO.out.hb.size)
            have HO5 := Aside0.mk (HO.out.turn hm5 hg5)
            have HLEN := Aside0.mk HO.out.m.len
            clear hR5 hm5 hg5 hxt
            go_wp2_with fail
            go_loopg [16] (out.length + 1) (fun kq v16 W => ∃ (j : Nat) (Tj : List Bool), v16 = .int .i64 j ∧ Aside0 (kq + j = out.length + 1) ∧ Aside0 (0 < kq) ∧ Aside0 (OI w W g p (.slice Am p cm) (.slice Ah nH ch) T' (Tj.take p) Hs) ∧ Aside0 (Tj.length = 511) ∧ Aside0 (allR true 61 p (out.drop j) Tj = .ok T') ∧ Aside0 (Kd.R k44 44 W w.heap.size (fun _ => True) (.slice A5 out.length c5) out))
            case atStart => exact ⟨0, T, rfl, ⟨by omega⟩, ⟨by omega⟩, HO5, HLEN, HCL, HP5⟩
            case round =>
              clear HO5 HP5 HO
              obtain ⟨j, Tj, rfl, HJ, HK, HOj, HTl, HA, HPj⟩ := hrel
              obtain ⟨k2, rfl⟩ : ∃ k2, gk = k2 + 1 := ⟨gk - 1, by have := HK.out; omega⟩
              by_cases hj : j < out.length
              · have ha := HA.out
                rw [drop_rd out j hj] at ha
                obtain ⟨q0, q1, q2, q3, q4, q5, q6⟩ := pair_ok HTl.out hnp ha
                obtain ⟨adp, rfl, hy0, hy1⟩ := at_T44 (Kd.R_reads' HPj.out).2.2 (j : Int) (by omega) (by omega)
                have hord := HLT.out (rd_T44 out (j : Int)) (by unfold rd_T44; rw [Int.toNat_natCast, List.getD_eq_getElem?_getD, List.getElem?_eq_getElem hj]; exact List.getElem_mem hj)
                simp only [Int.toNat_natCast] at hy0 hy1
                clear ha
                generalize rd_T44 out (j : Int) = y at *
                have hMl : (Tj.take p).length = p := take_len HTl.out hnp
                obtain ⟨gm, cm2, em⟩ := mine_form (p := p) HOj.out.rm (by omega)
                rw [hMl] at em
                injection em with em1 em2 em3
                subst em1 em3
                obtain ⟨o1, o2, o3⟩ := HOj.out.put y.f0 true q0 q1
                obtain ⟨o4, o5, o6⟩ := o1.put y.f1 true q2 q3
                obtain ⟨_, o7, _⟩ := HOj.out.put y.f1 true q2 q3
                have er0 : rdOf false (Tj.take p) y.f0 = false := by unfold rdOf; rw [getD_take Tj p _ (by omega)]; exact q4
                have er1 : rdOf false (Tj.take p) y.f1 = false := by unfold rdOf; rw [getD_take Tj p _ (by omega)]; exact q5
                rw [er0] at o2
                rw [er1] at o7
                obtain ⟨cells, hcells⟩ := Kd.R_typed HOj.out.rm gm rfl
                have HP2 := Aside0.mk (Kd.R_set (Kd.R_set HPj.out hcells (tyP (by decide)) y.f0.toNat (.bool true)) (blk_set hcells y.f0.toNat (.bool true)) (tyP (by decide)) y.f1.toNat (.bool true))
                have HO2 : Aside0 (OI w ((wr.setCell ⟨gm, y.f0.toNat, none⟩ (.bool true)).setCell ⟨gm, y.f1.toNat, none⟩ (.bool true)) g p (.slice (some ⟨gm, 0, none⟩) p cm) (.slice Ah nH ch) T' (((Tj.set y.f0.toNat true).set y.f1.toNat true).take p) Hs) := ⟨by rw [set_take, set_take]; exact o4⟩
                have HA2 := Aside0.mk q6
                have HTl2 : Aside0 (((Tj.set y.f0.toNat true).set y.f1.toNat true).length = 511) := ⟨by simp [HTl.out]⟩
                have hj0 : (0 : Int) ≤ (j : Int) := by omega
                have hj1 : (j : Int) < (out.length : Int) := by omega
                have hle1 : ¬ y.f1 ≤ y.f0 := by omega
                have hd1 : decide (y.f0 < 0) = false := by simp; omega
                have hd2 : decide (y.f1 ≤ y.f0) = false := by simp; omega
                have hd3 : decide ((p : Int) ≤ y.f1) = false := by simp; omega
                clear o1 o4 o5 er0 er1 hMl q4 q5 q6 hcells HOj HPj HA
                go_wp2_with fail
                go_quiet (fail)
                go_wp2_with fail
                go_roundg k2
                case measure => omega
                case rel => exact ⟨j + 1, _, by simp, ⟨by have := HJ.out; omega⟩, ⟨by have := HJ.out; omega⟩, ⟨HO2.out.below (pw_below_drewN (Below.refl _ _) nq)⟩, HTl2, HA2, ⟨Kd.R_drewN HP2.out nq⟩⟩
              · have ej : j = out.length := by have := HJ.out; omega
                have ha := HA.out
                rw [ej, List.drop_length] at ha
                injection ha with ha
                rw [ha] at HOj
                have hnxt := Aside0.mk (take_held hnp HLEN.out HH.out HCL.out)
                have hHl : ((Hs.length + 1) * 24 ≤ 140737488355328) := by have := HL.out; omega
                clear ha ej
                go_wp2_with (first | ((with_reducible refine gate_builtin (b := .append) (xs := #[.tmp 167, .tmp 169]) rfl ?_); at_builtin; refine Kd.R_append kLL (w0 := wr) w.heap.size rfl (.tmp 167) (.tmp 169) 40 42 (.slice none 0 0) 24 rfl Try.underlying40 info42 rfl (by decide) (by omega) (.slice Ah nH ch) Hs out [.slice A5 out.length c5] (fun _ => True) (fun k_ => True ∧ some k_ ≠ (Value.slice Ah nH ch).ownBlock) rfl rfl ?aP (fun _ hk => hk) ?aF ?aO ?aB ?aS ?aL ?_; (case aP => exact ⟨_, rfl, Kd.R_apart' HPj.out (Kd.R_typed HOj.out.rh) (tyP (by decide))⟩); (case aB => exact Below.refl _ _); (case aF => exact (fun _ _ => trivial)); (case aO => exact HOj.out.rh); (case aS => exact HOj.out.hb.size); (case aL => exact hHl); intro v109 w9 ho hb9 hg9 hat9; have n1_ := Aside0.mk ho; have n2_ := Aside0.mk (HOj.out.m.grown hg9 (Kd.R_ne HOj.out.rh HOj.out.m.blk (by decide))); have n3_ := Aside0.mk (Kd.R_over HOj.out.rm HOj.out.rh (tyB (by decide)) hg9); have n4_ := Aside0.mk (show Below w.heap.size w w9 from pw_below_grown HOj.out.hb _ HOj.out.hb.size hg9 (fun b hb => Kd.R_base HOj.out.rh b hb)); clear ho hb9 hg9 hat9))
                go_roundg k1
                case measure => omega
                case rel => exact ⟨i + 1, T', Hs ++ [out], by simp, ⟨by have := HI.out; omega⟩, ⟨by have := HI.out; omega⟩, ⟨⟨n2_.out, n3_.out, n1_.out, HOj.out.hg, n4_.out⟩⟩, hnxt, ⟨by simp; exact HL.out⟩⟩
        ·
          have hxt := pw_cell_below HO.out.hb HXT.out
          by_cases hsp : (p : Int) - (tkN T p).length < 2 * (x % 9)
          ·
            go_wp2_with fail
            refine (take_space HO.out.m (x % 9) hn80 hn8 hsp).mono ?_
            rintro e w5 ⟨rfl, hB5⟩
            have HO5 := Aside0.mk (HO.out.below hB5)
            clear hB5 hxt
            go_wp2
            go_roundg k1
            case measure => omega
            case rel => exact ⟨i + 1, T, Hs, by simp, ⟨by have := HI.out; omega⟩, ⟨by have := HI.out; omega⟩, HO5, HH, ⟨by have := HL.out; omega⟩⟩
          ·
            obtain ⟨T', out, ht⟩ : ∃ T' out, takeL p (x % 9) (p + 1) T (-1) 0 [] = (T', out) := ⟨_, _, rfl⟩
            obtain ⟨hcl, hlt⟩ := take_claims p hnp (x % 9) hn80 T HO.out.m.len (by omega) T' out ht
            have HCL := Aside0.mk hcl
            have HLT := Aside0.mk hlt
            have HT := Aside0.mk ht
            have hout : out.length ≤ 512 := by have := takeL_few p (x % 9) (p + 1) T (-1) 0 []; rw [ht] at this; simp at this; omega
            clear hcl hlt ht
            go_wp2_with fail
            refine (take_ok HO.out.m (x % 9) hn80 hn8 (by omega) T' out HT.out).mono ?_
            rintro e w5 ⟨v5, rfl, hR5, hm5, hg5⟩
            obtain ⟨A5, c5, rfl⟩ := Kd.R_slice hR5
            have HP5 := Aside0.mk (Kd.R_lower hR5 HO.out.hb.size)
            have HO5 := Aside0.mk (HO.out.turn hm5 hg5)
            have HLEN := Aside0.mk HO.out.m.len
            clear hR5 hm5 hg5 hxt
            go_wp2_with fail
            go_loopg [16] (out.length + 1) (fun kq v16 W => ∃ (j : Nat) (Tj : List Bool), v16 = .int .i64 j ∧ Aside0 (kq + j = out.length + 1) ∧ Aside0 (0 < kq) ∧ Aside0 (OI w W g p (.slice Am p cm) (.slice Ah nH ch) T' (Tj.take p) Hs) ∧ Aside0 (Tj.length = 511) ∧ Aside0 (allR true 61 p (out.drop j) Tj = .ok T') ∧ Aside0 (Kd.R k44 44 W w.heap.size (fun _ => True) (.slice A5 out.length c5) out))
            case atStart => exact ⟨0, T, rfl, ⟨by omega⟩, ⟨by omega⟩, HO5, HLEN, HCL, HP5⟩
            case round =>
              clear HO5 HP5 HO
              obtain ⟨j, Tj, rfl, HJ, HK, HOj, HTl, HA, HPj⟩ := hrel
              obtain ⟨k2, rfl⟩ : ∃ k2, gk = k2 + 1 := ⟨gk - 1, by have := HK.out; omega⟩
              by_cases hj : j < out.length
              · have ha := HA.out
                rw [drop_rd out j hj] at ha
                obtain ⟨q0, q1, q2, q3, q4, q5, q6⟩ := pair_ok HTl.out hnp ha
                obtain ⟨adp, rfl, hy0, hy1⟩ := at_T44 (Kd.R_reads' HPj.out).2.2 (j : Int) (by omega) (by omega)
                have hord := HLT.out (rd_T44 out (j : Int)) (by unfold rd_T44; rw [Int.toNat_natCast, List.getD_eq_getElem?_getD, List.getElem?_eq_getElem hj]; exact List.getElem_mem hj)
                simp only [Int.toNat_natCast] at hy0 hy1
                clear ha
                generalize rd_T44 out (j : Int) = y at *
                have hMl : (Tj.take p).length = p := take_len HTl.out hnp
                obtain ⟨gm, cm2, em⟩ := mine_form (p := p) HOj.out.rm (by omega)
                rw [hMl] at em
                injection em with em1 em2 em3
                subst em1 em3
                obtain ⟨o1, o2, o3⟩ := HOj.out.put y.f0 true q0 q1
                obtain ⟨o4, o5, o6⟩ := o1.put y.f1 true q2 q3
                obtain ⟨_, o7, _⟩ := HOj.out.put y.f1 true q2 q3
                have er0 : rdOf false (Tj.take p) y.f0 = false := by unfold rdOf; rw [getD_take Tj p _ (by omega)]; exact q4
                have er1 : rdOf false (Tj.take p) y.f1 = false := by unfold rdOf; rw [getD_take Tj p _ (by omega)]; exact q5
                rw [er0] at o2
                rw [er1] at o7
                obtain ⟨cells, hcells⟩ := Kd.R_typed HOj.out.rm gm rfl
                have HP2 := Aside0.mk (Kd.R_set (Kd.R_set HPj.out hcells (tyP (by decide)) y.f0.toNat (.bool true)) (blk_set hcells y.f0.toNat (.bool true)) (tyP (by decide)) y.f1.toNat (.bool true))
                have HO2 : Aside0 (OI w ((wr.setCell ⟨gm, y.f0.toNat, none⟩ (.bool true)).setCell ⟨gm, y.f1.toNat, none⟩ (.bool true)) g p (.slice (some ⟨gm, 0, none⟩) p cm) (.slice Ah nH ch) T' (((Tj.set y.f0.toNat true).set y.f1.toNat true).take p) Hs) := ⟨by rw [set_take, set_take]; exact o4⟩
                have HA2 := Aside0.mk q6
                have HTl2 : Aside0 (((Tj.set y.f0.toNat true).set y.f1.toNat true).length = 511) := ⟨by simp [HTl.out]⟩
                have hj0 : (0 : Int) ≤ (j : Int) := by omega
                have hj1 : (j : Int) < (out.length : Int) := by omega
                have hle1 : ¬ y.f1 ≤ y.f0 := by omega
                have hd1 : decide (y.f0 < 0) = false := by simp; omega
                have hd2 : decide (y.f1 ≤ y.f0) = false := by simp; omega
                have hd3 : decide ((p : Int) ≤ y.f1) = false := by simp; omega
                clear o1 o4 o5 er0 er1 hMl q4 q5 q6 hcells HOj HPj HA
                go_wp2_with fail
                go_quiet (fail)
                go_wp2_with fail
                go_roundg k2
                case measure => omega
                case rel => exact ⟨j + 1, _, by simp, ⟨by have := HJ.out; omega⟩, ⟨by have := HJ.out; omega⟩, ⟨HO2.out.below (pw_below_drewN (Below.refl _ _) nq)⟩, HTl2, HA2, ⟨Kd.R_drewN HP2.out nq⟩⟩
              · have ej : j = out.length := by have := HJ.out; omega
                have ha := HA.out
                rw [ej, List.drop_length] at ha
                injection ha with ha
                rw [ha] at HOj
                have hnxt := Aside0.mk (take_held hnp HLEN.out HH.out HCL.out)
                have hHl : ((Hs.length + 1) * 24 ≤ 140737488355328) := by have := HL.out; omega
                clear ha ej
                go_wp2_with (first | ((with_reducible refine gate_builtin (b := .append) (xs := #[.tmp 167, .tmp 169]) rfl ?_); at_builtin; refine Kd.R_append kLL (w0 := wr) w.heap.size rfl (.tmp 167) (.tmp 169) 40 42 (.slice none 0 0) 24 rfl Try.underlying40 info42 rfl (by decide) (by omega) (.slice Ah nH ch) Hs out [.slice A5 out.length c5] (fun _ => True) (fun k_ => True ∧ some k_ ≠ (Value.slice Ah nH ch).ownBlock) rfl rfl ?aP (fun _ hk => hk) ?aF ?aO ?aB ?aS ?aL ?_; (case aP => exact ⟨_, rfl, Kd.R_apart' HPj.out (Kd.R_typed HOj.out.rh) (tyP (by decide))⟩); (case aB => exact Below.refl _ _); (case aF => exact (fun _ _ => trivial)); (case aO => exact HOj.out.rh); (case aS => exact HOj.out.hb.size); (case aL => exact hHl); intro v109 w9 ho hb9 hg9 hat9; have n1_ := Aside0.mk ho; have n2_ := Aside0.mk (HOj.out.m.grown hg9 (Kd.R_ne HOj.out.rh HOj.out.m.blk (by decide))); have n3_ := Aside0.mk (Kd.R_over HOj.out.rm HOj.out.rh (tyB (by decide)) hg9); have n4_ := Aside0.mk (show Below w.heap.size w w9 from pw_below_grown HOj.out.hb _ HOj.out.hb.size hg9 (fun b hb => Kd.R_base HOj.out.rh b hb)); clear ho hb9 hg9 hat9))
                go_roundg k1
                case measure => omega
                case rel => exact ⟨i + 1, T', Hs ++ [out], by simp, ⟨by have := HI.out; omega⟩, ⟨by have := HI.out; omega⟩, ⟨⟨n2_.out, n3_.out, n1_.out, HOj.out.hg, n4_.out⟩⟩, hnxt, ⟨by simp; exact HL.out⟩⟩
    ·
      have hle : i ≤ l1.length := by have := HI.out; have := HZ.out; omega
      have hpT := tkN_length T p
      by_cases hi1 : i < l1.length
      all_goals
        go_wp2_with fail
        go_loopg [19, 20] (p + 1) (fun kq v19 v20 W => ∃ j : Nat, v20 = .int .i64 j ∧ v19 = .int .i64 ((tkN T j).length : Nat) ∧ Aside0 (kq + j = p + 1) ∧ Aside0 (0 < kq) ∧ Aside0 (OI w W g p (.slice Am p cm) (.slice Ah nH ch) T (T.take p) Hs))
        case atStart => exact ⟨0, rfl, rfl, ⟨by omega⟩, ⟨by omega⟩, HO⟩
        case round =>
          clear HO
          obtain ⟨j, rfl, rfl, HJ, HK, HO⟩ := hrel
          obtain ⟨k2, rfl⟩ : ∃ k2, gk = k2 + 1 := ⟨gk - 1, by have := HK.out; omega⟩
          have hjT := tkN_length T j
          by_cases hj : j < p
          · have hMl : (T.take p).length = p := take_len HO.out.m.len hnp
            obtain ⟨gm, cm2, em⟩ := mine_form (p := p) HO.out.rm (by omega)
            rw [hMl] at em
            injection em with em1 em2 em3
            subst em1 em3
            obtain ⟨_, o2, _⟩ := HO.out.put (j : Int) true (by omega) (by omega)
            have er : rdOf false (T.take p) (j : Int) = T.getD j false := by
              unfold rdOf
              rw [Int.toNat_natCast]
              exact getD_take T p j hj
            rw [er, Int.toNat_natCast] at o2
            clear hMl er
            cases hq : T.getD j false with
            | true =>
              rw [hq] at o2
              have HY := Aside0.mk (tkN_yes hq)
              clear hq
              go_wp2_with fail
              go_roundg k2
              case measure => omega
              case rel => exact ⟨j + 1, by simp, by rw [HY.out]; simp, ⟨by have := HJ.out; omega⟩, ⟨by have := HJ.out; omega⟩, HO⟩
            | false =>
              rw [hq] at o2
              have HY := Aside0.mk (tkN_no hq)
              clear hq
              go_wp2_with fail
              go_roundg k2
              case measure => omega
              case rel => exact ⟨j + 1, by simp, by rw [HY.out], ⟨by have := HJ.out; omega⟩, ⟨by have := HJ.out; omega⟩, HO⟩
          · have ej : j = p := by have := HJ.out; omega
            subst ej
            go_wp2_with fail
            refine (taken_is HO.out.m).mono ?_
            rintro e w5 ⟨v, rfl, hR5, hB5⟩
            obtain ⟨A5, c5, rfl⟩ := Kd.R_slice hR5
            have HO5 := Aside0.mk (HO.out.below hB5)
            clear hR5 hB5
            go_wp2_with fail
            refine (free_is HO5.out.m).mono ?_
            rintro e w6 ⟨rfl, hB6⟩
            have HO6 := Aside0.mk (HO5.out.below hB6)
            clear hB6
            go_wp2_with fail
            refine (len_is HO6.out.m).mono ?_
            rintro e w7 ⟨rfl, hD7⟩
            have HO7 := Aside0.mk (HO6.out.below hD7.below)
            clear hD7
            go_wp2
            go_ret
            exact ⟨rfl, HO7.out.hb⟩
end Go.Proofs.Ytcfokcdmkhljoaa.Sp
