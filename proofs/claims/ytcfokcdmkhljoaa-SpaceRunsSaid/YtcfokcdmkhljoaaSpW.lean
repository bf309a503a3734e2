/- Layer 6, space: the walk of the statement SpaceRuns. -/
import Derived.Test.YtcfokcdmkhljoaaSpV
import Derived.Test.YtcfokcdmkhljoaaSpU
import Derived.Test.YtcfokcdmkhljoaaSpO
namespace Go.Proofs.Ytcfokcdmkhljoaa.Sp
open Go.RowKit Go.Proofs.YtcfokcdmkhljoaaW.PrintWords Go.Proofs.YtcfokcdmkhljoaaW.PrintLast Go.Proofs.YtcfokcdmkhljoaaW.PrintMore
open Go.Proofs.Ytcfokcdmkhljoaa.PSpaceRuns
set_option linter.unusedVariables false
set_option linter.unusedSimpArgs false

theorem at_55 {w : World} {A : Option Addr} {n : Nat} {xs : List S55} (h : Kd.C k55 w A n xs) (i : Nat) (h1 : i < n) :
    ∃ ad A' c', A = some ad ∧ w.cell? (ad.add (i * 3)) = some (.int .u8 (xs.getD i z55).f0) ∧ w.cell? ⟨(ad.add (i * 3)).block, (ad.add (i * 3)).off + 1, none⟩ = some (.slice A' (xs.getD i z55).f1.length c') ∧
      w.cell? ⟨(ad.add (i * 3)).block, (ad.add (i * 3)).off + 2, none⟩ = some (.int .i64 (xs.getD i z55).f2) ∧ (xs.getD i z55).f1.length ≤ c' ∧ Kd.C k44 w A' (xs.getD i z55).f1.length (xs.getD i z55).f1 := by
  obtain ⟨ad, c, e, _, hK, hc0⟩ := Kd.C_get h z55 (i : Int) (by omega) (by omega)
  have hc : ∀ j u, c[j]? = some u → w.cell? (ad.add (i * 3 + j)) = some u := hc0
  rw [Int.toNat_natCast] at hK
  obtain ⟨c0, c1, rfl, rfl, c2, c3, rfl, ⟨A', c', rfl, hl, hC⟩, rfl⟩ := hK
  exact ⟨ad, A', c', e, hc 0 _ rfl, by rw [← add_field _ _ 1 (by omega)]; exact hc 1 _ rfl, by rw [← add_field _ _ 2 (by omega)]; exact hc 2 _ rfl, hl, hC⟩
theorem ty44 : ∀ q, q ∈ 44 :: k44.E → q ≠ 31 := fun q hq => by
  have hq44 : q = 44 := by simpa [k44, Kd.iso, Kd.pair, Kd.int, Kd.scalar] using hq
  rw [hq44]; decide
/-- what holds at each head of the walk -/
def RI (w W : World) (g8 g p : Nat) : Prop := ∃ (T : List Bool) (A3 : Option Addr) (c3 : Nat) (l0 : List Bool), l0 = T.take p ∧ MapAt W g T p ∧ Kd.R Kd.bool 4 W w.heap.size (fun _ => True) (.slice A3 l0.length c3) l0 ∧
  W.heap[g8]? = some (.cells #[.slice A3 l0.length c3] 31 (0, 0)) ∧ w.heap.size ≤ g ∧ Below w.heap.size w W
theorem box_put {w W : World} {g8 g p : Nat} {T : List Bool} {old v : Value} {l : List Bool} (hB : Below w.heap.size w W) (hg8 : w.heap.size ≤ g8) (hb : W.heap[g8]? = some (.cells #[old] 31 (0, 0))) (hM : MapAt W g T p) (hR : Kd.R Kd.bool 4 W w.heap.size (fun _ => True) v l) :
    Below w.heap.size w (W.setCell ⟨g8, 0, none⟩ v) ∧ (W.setCell ⟨g8, 0, none⟩ v).heap[g8]? = some (.cells #[v] 31 (0, 0)) ∧ MapAt (W.setCell ⟨g8, 0, none⟩ v) g T p ∧ Kd.R Kd.bool 4 (W.setCell ⟨g8, 0, none⟩ v) w.heap.size (fun _ => True) v l :=
  ⟨below_set hB hg8, blk_set hb 0 v, ⟨hM.len, hM.few, blk_far hM.blk (p := ⟨g8, 0, none⟩) (blk_ne hM.blk hb (by decide)) v⟩, Kd.R_set hR hb (fun q hq => by simp [Kd.bool, Kd.scalar] at hq; rw [hq]; decide) 0 v⟩
/-- Take, whatever it answers. -/
theorem take_any {w : World} {g : Nat} {T : List Bool} {p : Nat} (h : MapAt w g T p) (n : Int) : Calls Try.prog 18 #[.pointer (some ⟨g, 0, none⟩), .int .i64 n] w fun e w' => ∃ v1 v2, e = .returned (.tuple #[v1, v2]) ∧ w.grownBy w' (some g) := by
  by_cases h0 : n < 0 ∨ 64 < n
  · refine (take_arg h n h0).mono ?_
    rintro e w' ⟨rfl, hd⟩
    exact ⟨_, _, rfl, grown_below hd.below _⟩
  · by_cases h1 : (p : Int) - (tkN T p).length < 2 * n
    · refine (take_space h n (by omega) (by omega) h1).mono ?_
      rintro e w' ⟨rfl, hd⟩
      exact ⟨_, _, rfl, grown_below hd _⟩
    · obtain ⟨T', out', ht⟩ : ∃ T' out', takeL p n (p + 1) T (-1) 0 [] = (T', out') := ⟨_, _, rfl⟩
      refine (take_ok h n (by omega) (by omega) (by omega) T' out' ht).mono ?_
      rintro e w' ⟨v, rfl, _, _, hg⟩
      exact ⟨_, _, rfl, hg⟩
/-- what claiming, or giving back, answers and leaves -/
def TurnX (b : Bool) (bad : Int) (p : Nat) (L : List S44) (T : List Bool) (x : Int) (T2 : List Bool) : Prop := ((∃ e, allR b bad p L T = .error e ∧ x = e ∧ T2 = T) ∨ (allR b bad p L T = .ok T2 ∧ x = 0)) ∧ refOut (T.take p) p (allR b bad p L T) = (T2.take p, x)
theorem turnX (b : Bool) (bad : Int) (p : Nat) (L : List S44) (T : List Bool) : ∃ x T2, TurnX b bad p L T x T2 := by
  unfold TurnX
  cases h : allR b bad p L T with
  | error e => exact ⟨e, T, .inl ⟨e, rfl, rfl, rfl⟩, rfl⟩
  | ok T2 => exact ⟨0, T2, .inr ⟨rfl, rfl⟩, rfl⟩
set_option maxHeartbeats 8000000 in
set_option maxRecDepth 100000 in
theorem runs_walk (a0 : Int) (w0 : (Lit.int .u16 a0).wf = true) (A : Option Addr) (c : Nat) (l : List S55) {w : World} (hC : Kd.C k55 w A l.length l) (hc : l.length ≤ c) (hG : l.length * 40 ≤ 140737488351232 ∧ l.length ≤ 9223372036854775807 ∧ ∀ a ∈ l, G55 a) (_w : World) :
    Calls Try.prog 6 #[.int .u16 a0, .slice A l.length c] w fun e w' => e = .returned (.bool true) ∧ Below w.heap.size w w' := by
  obtain ⟨b0, b1⟩ := u16_bd w0
  have hn0 : 0 ≤ a0 % 700 := by omega
  have hn1 : a0 % 700 ≤ 4096 := by omega
  have hnp := nplots_le hn1
  have hlm := hG.2.1
  have HG := Aside0.mk hG
  have HC := Aside0.mk hC
  obtain ⟨p, hp⟩ : ∃ p, p = nplots (a0 % 700) := ⟨_, rfl⟩
  rw [← hp] at hnp
  have HP := Aside0.mk hp
  clear hG hC w0 hp
  go_enter Try.func6, Try.ntmps6
  go_wp2_with fail
  refine (new_is (a0 % 700) hn0 hn1).mono ?_
  rintro e w1 ⟨g1, hg1, rfl, hm1, hB1⟩
  rw [← HP.out] at hm1
  have HM1 := Aside0.mk hm1
  have HG1 := Aside0.mk hg1
  have HB1 := Aside0.mk hB1
  clear hm1 hg1 hB1
  go_wp2_with fail
  refine (lienref06_New.calls 513 (a0 % 700) _ _ _ (ref_new (a0 % 700) hn0 hn1)).mono ?_
  rintro e w2 ⟨v, rfl, hR, hB⟩
  obtain ⟨l0, hl0⟩ : ∃ l0, l0 = zT.take p := ⟨_, rfl⟩
  rw [← HP.out, ← zT_take p hnp, ← hl0] at hR
  have HL0 := Aside0.mk hl0
  obtain ⟨A3, c3, rfl⟩ := Kd.R_slice hR
  have HW2 := Aside0.mk (below_step HB1.out hB)
  have HV2 := Aside0.mk (Kd.R_lower (R_any hR) HB1.out.size)
  have HM2 := Aside0.mk (HM1.out.below hB)
  clear hR hB HM1 HB1 hl0
  go_wp2_with fail
  refine (awake_is _).mono ?_
  rintro e w3 ⟨rfl, hB3⟩
  have HRI : Aside0 (RI w w3 w2.heap.size g1 p) := ⟨⟨zT, A3, c3, l0, HL0.out, (HM2.out.below (below_alloc (Below.refl _ _) _)).below hB3, Kd.R_below (Kd.R_alloc HV2.out _) hB3, (hB3.block _ (by simp)).trans (blk_new _ _), HG1.out, below_step (below_step HW2.out (below_alloc (Below.refl _ _) _)) hB3⟩⟩
  have HG8 := Aside0.mk (show w.heap.size ≤ w2.heap.size from HW2.out.size)
  clear hB3 HL0 HV2 HM2 HG1
  go_wp2_with fail
  go_loopg [6, 10] (l.length + 1) (fun kq v6 v10 W => ∃ (i g : Nat), v10 = .int .i64 i ∧ v6 = .pointer (some ⟨g, 0, none⟩) ∧ Aside0 (kq + i = l.length + 1) ∧ Aside0 (0 < kq) ∧ Aside0 (RI w W w2.heap.size g p))
  case atStart => exact ⟨0, g1, rfl, rfl, ⟨rfl⟩, ⟨by omega⟩, HRI⟩
  case round =>
    clear HRI
    obtain ⟨i, g, rfl, rfl, HI, HZ, HRI⟩ := hrel
    obtain ⟨T, A4, c4, l1, hl1, hm, hR, hb8, hg, hB⟩ := HRI.out
    have HL1 := Aside0.mk hl1
    have HM := Aside0.mk hm
    have HR := Aside0.mk hR
    have HB8 := Aside0.mk hb8
    have HGg := Aside0.mk hg
    have HB := Aside0.mk hB
    clear hl1 hm hR hb8 hg hB HRI
    by_cases hi : i < l.length ∧ i < 40
    · obtain ⟨hi1, hi40⟩ := hi
      obtain ⟨k1, rfl⟩ : ∃ k1, gk = k1 + 1 := ⟨gk - 1, by have := HZ.out; omega⟩
      obtain ⟨ad, A', c', rfl, hx0, hx1, hx2, hcl, hCL⟩ := at_55 (Kd.C_below HC.out HB.out) i hi1
      have hgx := HG.out.2.2 (l.getD i z55) (by rw [List.getD_eq_getElem?_getD, List.getElem?_eq_getElem hi1]; exact List.getElem_mem hi1)
      have hold : Kd.C k44 w A' (l.getD i z55).f1.length (l.getD i z55).f1 := by
        obtain ⟨ad2, A2, c2, e2, _, hy1, _, _, hC2⟩ := at_55 HC.out i hi1
        cases e2
        have := pw_cell_below HB.out hy1
        rw [hx1] at this
        injection this with this
        injection this with q1 q2 q3
        subst q1
        exact hC2
      clear hCL
      generalize l.getD i z55 = x at *
      obtain ⟨b2, b3, b4, b5, b6⟩ := hgx
      obtain ⟨L, hL⟩ : ∃ L, L = x.f1.take 300 := ⟨_, rfl⟩
      have hLl : L.length ≤ 300 := by rw [hL, List.length_take]; omega
      have hLc : L.length ≤ c' := by rw [hL, List.length_take]; omega
      have hCL : Kd.C k44 w A' L.length L := by
        by_cases h3 : x.f1.length ≤ 300
        · rw [hL, List.take_of_length_le h3]; exact hold
        · rw [hL]; exact Kd.C_take hold (by omega)
      have HL := Aside0.mk hL
      have HCL := Aside0.mk hCL
      have hcell8 : wr.cell? ⟨w2.heap.size, 0, none⟩ = some (.slice A4 l1.length c4) := blk_cell HB8.out 0
      have H8LT := Aside0.mk (blk_lt HB8.out)
      clear hL hCL hold
      have hkind : x.f0 % 4 = 0 ∨ x.f0 % 4 = 1 ∨ x.f0 % 4 = 2 ∨ x.f0 % 4 = 3 := by omega
      have HBX := Aside0.mk (below_alloc (Below.refl wr.heap.size wr) (.cells #[.int .u8 x.f0, .slice A' x.f1.length c', .int .i64 x.f2] 55))
      have HT511 := Aside0.mk HM.out.len
      rcases hkind with hkd | hkd | hkd | hkd
      ·
        go_wp2_with fail
        refine (few_is' A' x.f1 L HL.out c' hcl _).mono ?_
        rintro e w' ⟨rfl, rfl⟩
        go_wp2_with fail
        obtain ⟨y, T2, hy⟩ := turnX true 61 p L T
        have HY := Aside0.mk hy
        clear hy
        refine (claim_e (HM.out.below HBX.out) A' c' L (C_old HCL.out (below_step HB.out HBX.out) HGg.out) hLc y T2 HY.out.1).mono ?_
        rintro e w5 ⟨rfl, hm5, hg5⟩
        have HM5 := Aside0.mk hm5
        have HW5 := Aside0.mk (show Below w.heap.size w w5 from pw_below_grown (below_step HB.out HBX.out) _ (below_step HB.out HBX.out).size hg5 (fun k e => by injection e with e; have := HGg.out; omega))
        have HR5 := Aside0.mk (Kd.R_mono (Kd.R_grown (Kd.R_types (Kd.R_below HR.out HBX.out) (HM.out.below HBX.out).blk (fun q hq => by simp [Kd.bool, Kd.scalar] at hq; rw [hq]; decide)) hg5 (fun k hk he => by injection he with he; exact hk.2 he)) (fun _ _ => trivial))
        have hb5 : w5.heap[w2.heap.size]? = some (.cells #[.slice A4 l1.length c4] 31 (0, 0)) := blk_grown (blk_alloc HB8.out _) hg5 (fun e => by injection e with e; exact blk_ne HM.out.blk HB8.out (by decide) e.symm)
        have HB5 := Aside0.mk hb5
        have hcell5 : w5.cell? ⟨w2.heap.size, 0, none⟩ = some (.slice A4 l1.length c4) := blk_cell hb5 0
        clear hm5 hg5 hb5 HM HR HB8 hcell8
        go_wp2_with fail
        have hcf := claimF p T HT511.out hnp L (by omega) (4 * L.length + 2) (by omega)
        rw [HY.out.2, ← HL1.out] at hcf
        have HCF := Aside0.mk hcf
        clear hcf
        refine (rclaim_is HW5.out HR5.out A' c' L (C_oldV HCL.out HW5.out HR5.out) hLc _ _ _ HCF.out).mono ?_
        rintro e w6 ⟨v', rfl, hR6, hB6, hK6⟩
        obtain ⟨l5, hl5⟩ : ∃ l5, l5 = T2.take p := ⟨_, rfl⟩
        rw [← hl5] at hR6
        have HL5 := Aside0.mk hl5
        obtain ⟨A5, c5, rfl, hc5, hC5⟩ := Kd.R_reads hR6
        have hb6 : w6.heap[w2.heap.size]? = some (.cells #[.slice A4 l1.length c4] 31 (0, 0)) := blk_keptV HB5.out (by decide) hK6 HR5.out
        have hM6 := HM5.out.kept hK6 HR5.out
        obtain ⟨q1, q2, q3, q4⟩ := box_put hB6 HG8.out hb6 hM6 hR6
        have HWP := Aside0.mk q1
        have HBP := Aside0.mk q2
        have HMP := Aside0.mk q3
        have HRP := Aside0.mk q4
        have hcell6 : w6.cell? ⟨w2.heap.size, 0, none⟩ = some (.slice A4 l1.length c4) := blk_cell hb6 0
        have hfz6 : w6.frozen? ⟨w2.heap.size, 0, none⟩ = false := blk_frozen hb6 0
        clear hl5 hb6 hM6 q1 q2 q3 q4 hR6 hB6 hK6 hC5 HR5 HB5 HM5 hcell5
        go_wp2_with fail
        refine (like_is' HMP.out A5 c5 l5 HL5.out _ rfl (Kd.R_reads' HRP.out).2.2 hc5).mono ?_
        rintro e wL ⟨rfl, hBL⟩
        have HEND := Aside0.mk (show RI w wL w2.heap.size g p from ⟨T2, A5, c5, l5, HL5.out, HMP.out.below hBL, Kd.R_below HRP.out hBL, (hBL.block _ (blk_lt HBP.out)).trans HBP.out, HGg.out, below_step HWP.out hBL⟩)
        clear hBL
        go_wp2
        go_roundg k1
        case measure => omega
        case rel => exact ⟨i + 1, g, by simp, rfl, ⟨by have := HI.out; omega⟩, ⟨by have := HI.out; omega⟩, HEND⟩
      ·
        go_wp2_with fail
        refine (few_is' A' x.f1 L HL.out c' hcl _).mono ?_
        rintro e w' ⟨rfl, rfl⟩
        go_wp2_with fail
        obtain ⟨y, T2, hy⟩ := turnX false 62 p L T
        have HY := Aside0.mk hy
        clear hy
        refine (give_e (HM.out.below HBX.out) A' c' L (C_old HCL.out (below_step HB.out HBX.out) HGg.out) hLc y T2 HY.out.1).mono ?_
        rintro e w5 ⟨rfl, hm5, hg5⟩
        have HM5 := Aside0.mk hm5
        have HW5 := Aside0.mk (show Below w.heap.size w w5 from pw_below_grown (below_step HB.out HBX.out) _ (below_step HB.out HBX.out).size hg5 (fun k e => by injection e with e; have := HGg.out; omega))
        have HR5 := Aside0.mk (Kd.R_mono (Kd.R_grown (Kd.R_types (Kd.R_below HR.out HBX.out) (HM.out.below HBX.out).blk (fun q hq => by simp [Kd.bool, Kd.scalar] at hq; rw [hq]; decide)) hg5 (fun k hk he => by injection he with he; exact hk.2 he)) (fun _ _ => trivial))
        have hb5 : w5.heap[w2.heap.size]? = some (.cells #[.slice A4 l1.length c4] 31 (0, 0)) := blk_grown (blk_alloc HB8.out _) hg5 (fun e => by injection e with e; exact blk_ne HM.out.blk HB8.out (by decide) e.symm)
        have HB5 := Aside0.mk hb5
        have hcell5 : w5.cell? ⟨w2.heap.size, 0, none⟩ = some (.slice A4 l1.length c4) := blk_cell hb5 0
        clear hm5 hg5 hb5 HM HR HB8 hcell8
        go_wp2_with fail
        have hcf := giveF p T HT511.out hnp L (by omega) (4 * L.length + 2) (by omega)
        rw [HY.out.2, ← HL1.out] at hcf
        have HCF := Aside0.mk hcf
        clear hcf
        refine (rgive_is HW5.out HR5.out A' c' L (C_oldV HCL.out HW5.out HR5.out) hLc _ _ _ HCF.out).mono ?_
        rintro e w6 ⟨v', rfl, hR6, hB6, hK6⟩
        obtain ⟨l5, hl5⟩ : ∃ l5, l5 = T2.take p := ⟨_, rfl⟩
        rw [← hl5] at hR6
        have HL5 := Aside0.mk hl5
        obtain ⟨A5, c5, rfl, hc5, hC5⟩ := Kd.R_reads hR6
        have hb6 : w6.heap[w2.heap.size]? = some (.cells #[.slice A4 l1.length c4] 31 (0, 0)) := blk_keptV HB5.out (by decide) hK6 HR5.out
        have hM6 := HM5.out.kept hK6 HR5.out
        obtain ⟨q1, q2, q3, q4⟩ := box_put hB6 HG8.out hb6 hM6 hR6
        have HWP := Aside0.mk q1
        have HBP := Aside0.mk q2
        have HMP := Aside0.mk q3
        have HRP := Aside0.mk q4
        have hcell6 : w6.cell? ⟨w2.heap.size, 0, none⟩ = some (.slice A4 l1.length c4) := blk_cell hb6 0
        have hfz6 : w6.frozen? ⟨w2.heap.size, 0, none⟩ = false := blk_frozen hb6 0
        clear hl5 hb6 hM6 q1 q2 q3 q4 hR6 hB6 hK6 hC5 HR5 HB5 HM5 hcell5
        go_wp2_with fail
        refine (like_is' HMP.out A5 c5 l5 HL5.out _ rfl (Kd.R_reads' HRP.out).2.2 hc5).mono ?_
        rintro e wL ⟨rfl, hBL⟩
        have HEND := Aside0.mk (show RI w wL w2.heap.size g p from ⟨T2, A5, c5, l5, HL5.out, HMP.out.below hBL, Kd.R_below HRP.out hBL, (hBL.block _ (blk_lt HBP.out)).trans HBP.out, HGg.out, below_step HWP.out hBL⟩)
        clear hBL
        go_wp2
        go_roundg k1
        case measure => omega
        case rel => exact ⟨i + 1, g, by simp, rfl, ⟨by have := HI.out; omega⟩, ⟨by have := HI.out; omega⟩, HEND⟩
      ·
        go_wp2_with fail
        refine (few_is' A' x.f1 L HL.out c' hcl _).mono ?_
        rintro e w' ⟨rfl, rfl⟩
        go_wp2_with fail
        by_cases ht : x.f2 < 0 ∨ 64 < x.f2
        ·
          have HT := Aside0.mk ht
          refine (take_arg (HM.out.below HBX.out) x.f2 ht).mono ?_
          rintro e w5 ⟨rfl, hd5⟩
          have hg5 := grown_below hd5.below (some g)
          have HM5 := Aside0.mk ((HM.out.below HBX.out).below hd5.below)
          have HGR := Aside0.mk hg5
          clear hd5 hg5
          have HW5 := Aside0.mk (show Below w.heap.size w w5 from pw_below_grown (below_step HB.out HBX.out) _ (below_step HB.out HBX.out).size HGR.out (fun k e => by injection e with e; have := HGg.out; omega))
          have HR5 := Aside0.mk (Kd.R_mono (Kd.R_grown (Kd.R_types (Kd.R_below HR.out HBX.out) (HM.out.below HBX.out).blk (fun q hq => by simp [Kd.bool, Kd.scalar] at hq; rw [hq]; decide)) HGR.out (fun k hk he => by injection he with he; exact hk.2 he)) (fun _ _ => trivial))
          have hb5 : w5.heap[w2.heap.size]? = some (.cells #[.slice A4 l1.length c4] 31 (0, 0)) := blk_grown (blk_alloc HB8.out _) HGR.out (fun e => by injection e with e; exact blk_ne HM.out.blk HB8.out (by decide) e.symm)
          have hbS : w5.heap[wr.heap.size]? = some (.cells #[.int .u8 x.f0, .slice A' x.f1.length c', .int .i64 x.f2] 55 (0, 0)) := blk_grown (blk_new wr _) HGR.out (fun e => by injection e with e; have := HM.out.lt; omega)
          have HB5 := Aside0.mk hb5
          have hcell5 : w5.cell? ⟨w2.heap.size, 0, none⟩ = some (.slice A4 l1.length c4) := blk_cell hb5 0
          have hcellS : w5.cell? ⟨wr.heap.size, 2, none⟩ = some (.int .i64 x.f2) := blk_cell hbS 2
          clear hb5 hbS HM HR HB8 hcell8
          go_wp2_with fail
          have hcf := takeF_arg 2000 l1 x.f2 HT.out
          have HCF := Aside0.mk hcf
          clear hcf
          refine (rtake_is HW5.out HR5.out x.f2 _ _ _ _ HCF.out).mono ?_
          rintro e w6 ⟨v', u', rfl, hR6, hU6, hB6, hK6⟩
          obtain ⟨l5, hl5⟩ : ∃ l5, l5 = T.take p := ⟨_, rfl⟩
          rw [show l1 = l5 from HL1.out.trans hl5.symm] at hR6
          have HL5 := Aside0.mk hl5
          obtain ⟨A5, c5, rfl, hc5, hC5⟩ := Kd.R_reads hR6
          obtain ⟨A8, c8, rfl, hc8, hC8⟩ := Kd.R_reads hU6
          have hb6 : w6.heap[w2.heap.size]? = some (.cells #[.slice A4 l1.length c4] 31 (0, 0)) := blk_keptV HB5.out (by decide) hK6 HR5.out
          have hM6 := HM5.out.kept hK6 HR5.out
          obtain ⟨q1, q2, q3, q4⟩ := box_put hB6 HG8.out hb6 hM6 hR6
          have HWQ := Aside0.mk (below_step q1 (below_alloc (Below.refl _ _) (.cells #[.slice A5 l5.length c5] 31)))
          have HBQ := Aside0.mk (blk_alloc q2 (.cells #[.slice A5 l5.length c5] 31))
          have HMQ := Aside0.mk (q3.below (below_alloc (Below.refl _ _) (.cells #[.slice A5 l5.length c5] 31)))
          have HRQ := Aside0.mk (Kd.R_alloc q4 (.cells #[.slice A5 l5.length c5] 31))
          have HUQ := Aside0.mk (Kd.R_reads' (Kd.R_alloc (Kd.R_set hU6 hb6 ty44 0 (.slice A5 l5.length c5)) (.cells #[.slice A5 l5.length c5] 31))).2.2
          have hcell6 : w6.cell? ⟨w2.heap.size, 0, none⟩ = some (.slice A4 l1.length c4) := blk_cell hb6 0
          have hfz6 : w6.frozen? ⟨w2.heap.size, 0, none⟩ = false := blk_frozen hb6 0
          have hlt6 : w2.heap.size < w6.heap.size := blk_lt hb6
          clear hl5 hb6 hM6 q1 q2 q3 q4 hR6 hU6 hB6 hK6 hC5 hC8 HR5 HB5 HM5 hcell5 hcellS
          go_wp2_with fail
          refine (lienlaw06_pairs.calls 100001 none 0 ([] : List S44) A8 c8 ([] : List S44) true _ (Kd.C_nil _ _) (Nat.le_refl _) HUQ.out hc8 (pairs_is [] (by simp))).mono ?_
          rintro e w7 ⟨rfl, hD7⟩
          have hB7 := hD7.below
          have HWP := Aside0.mk (below_step HWQ.out hB7)
          have HBP := Aside0.mk ((hB7.block _ (blk_lt HBQ.out)).trans HBQ.out)
          have HMP := Aside0.mk (HMQ.out.below hB7)
          have HRP := Aside0.mk (Kd.R_below HRQ.out hB7)
          have hcell7 : w7.cell? ⟨w2.heap.size, 0, none⟩ = some (.slice A5 l5.length c5) := blk_cell HBP.out 0
          clear hB7 hD7 HWQ HBQ HMQ HRQ HUQ hcell6 hfz6 hlt6
          go_wp2_with fail
          refine (like_is' HMP.out A5 c5 l5 HL5.out _ rfl (Kd.R_reads' HRP.out).2.2 hc5).mono ?_
          rintro e wL ⟨rfl, hBL⟩
          have HEND := Aside0.mk (show RI w wL w2.heap.size g p from ⟨T, A5, c5, l5, HL5.out, HMP.out.below hBL, Kd.R_below HRP.out hBL, (hBL.block _ (blk_lt HBP.out)).trans HBP.out, HGg.out, below_step HWP.out hBL⟩)
          clear hBL
          go_wp2
          go_roundg k1
          case measure => omega
          case rel => exact ⟨i + 1, g, by simp, rfl, ⟨by have := HI.out; omega⟩, ⟨by have := HI.out; omega⟩, HEND⟩
        ·
          by_cases ht2 : (p : Int) - (tkN T p).length < 2 * x.f2
          ·
            have HT := Aside0.mk (show 0 ≤ x.f2 ∧ x.f2 ≤ 64 ∧ (p : Int) - (tkN T p).length < 2 * x.f2 from ⟨by omega, by omega, ht2⟩)
            refine (take_space (HM.out.below HBX.out) x.f2 (by omega) (by omega) ht2).mono ?_
            rintro e w5 ⟨rfl, hd5⟩
            have hg5 := grown_below hd5 (some g)
            have HM5 := Aside0.mk ((HM.out.below HBX.out).below hd5)
            have HGR := Aside0.mk hg5
            clear hd5 hg5
            have HW5 := Aside0.mk (show Below w.heap.size w w5 from pw_below_grown (below_step HB.out HBX.out) _ (below_step HB.out HBX.out).size HGR.out (fun k e => by injection e with e; have := HGg.out; omega))
            have HR5 := Aside0.mk (Kd.R_mono (Kd.R_grown (Kd.R_types (Kd.R_below HR.out HBX.out) (HM.out.below HBX.out).blk (fun q hq => by simp [Kd.bool, Kd.scalar] at hq; rw [hq]; decide)) HGR.out (fun k hk he => by injection he with he; exact hk.2 he)) (fun _ _ => trivial))
            have hb5 : w5.heap[w2.heap.size]? = some (.cells #[.slice A4 l1.length c4] 31 (0, 0)) := blk_grown (blk_alloc HB8.out _) HGR.out (fun e => by injection e with e; exact blk_ne HM.out.blk HB8.out (by decide) e.symm)
            have hbS : w5.heap[wr.heap.size]? = some (.cells #[.int .u8 x.f0, .slice A' x.f1.length c', .int .i64 x.f2] 55 (0, 0)) := blk_grown (blk_new wr _) HGR.out (fun e => by injection e with e; have := HM.out.lt; omega)
            have HB5 := Aside0.mk hb5
            have hcell5 : w5.cell? ⟨w2.heap.size, 0, none⟩ = some (.slice A4 l1.length c4) := blk_cell hb5 0
            have hcellS : w5.cell? ⟨wr.heap.size, 2, none⟩ = some (.int .i64 x.f2) := blk_cell hbS 2
            clear hb5 hbS HM HR HB8 hcell8
            go_wp2_with fail
            have hcf := takeF_space 2000 (by omega) p T HT511.out hnp x.f2 HT.out.1 HT.out.2.1 HT.out.2.2
            rw [← HL1.out] at hcf
            have HCF := Aside0.mk hcf
            clear hcf
            refine (rtake_is HW5.out HR5.out x.f2 _ _ _ _ HCF.out).mono ?_
            rintro e w6 ⟨v', u', rfl, hR6, hU6, hB6, hK6⟩
            obtain ⟨l5, hl5⟩ : ∃ l5, l5 = T.take p := ⟨_, rfl⟩
            rw [show l1 = l5 from HL1.out.trans hl5.symm] at hR6
            have HL5 := Aside0.mk hl5
            obtain ⟨A5, c5, rfl, hc5, hC5⟩ := Kd.R_reads hR6
            obtain ⟨A8, c8, rfl, hc8, hC8⟩ := Kd.R_reads hU6
            have hb6 : w6.heap[w2.heap.size]? = some (.cells #[.slice A4 l1.length c4] 31 (0, 0)) := blk_keptV HB5.out (by decide) hK6 HR5.out
            have hM6 := HM5.out.kept hK6 HR5.out
            obtain ⟨q1, q2, q3, q4⟩ := box_put hB6 HG8.out hb6 hM6 hR6
            have HWQ := Aside0.mk (below_step q1 (below_alloc (Below.refl _ _) (.cells #[.slice A5 l5.length c5] 31)))
            have HBQ := Aside0.mk (blk_alloc q2 (.cells #[.slice A5 l5.length c5] 31))
            have HMQ := Aside0.mk (q3.below (below_alloc (Below.refl _ _) (.cells #[.slice A5 l5.length c5] 31)))
            have HRQ := Aside0.mk (Kd.R_alloc q4 (.cells #[.slice A5 l5.length c5] 31))
            have HUQ := Aside0.mk (Kd.R_reads' (Kd.R_alloc (Kd.R_set hU6 hb6 ty44 0 (.slice A5 l5.length c5)) (.cells #[.slice A5 l5.length c5] 31))).2.2
            have hcell6 : w6.cell? ⟨w2.heap.size, 0, none⟩ = some (.slice A4 l1.length c4) := blk_cell hb6 0
            have hfz6 : w6.frozen? ⟨w2.heap.size, 0, none⟩ = false := blk_frozen hb6 0
            have hlt6 : w2.heap.size < w6.heap.size := blk_lt hb6
            clear hl5 hb6 hM6 q1 q2 q3 q4 hR6 hU6 hB6 hK6 hC5 hC8 HR5 HB5 HM5 hcell5 hcellS
            go_wp2_with fail
            refine (lienlaw06_pairs.calls 100001 none 0 ([] : List S44) A8 c8 ([] : List S44) true _ (Kd.C_nil _ _) (Nat.le_refl _) HUQ.out hc8 (pairs_is [] (by simp))).mono ?_
            rintro e w7 ⟨rfl, hD7⟩
            have hB7 := hD7.below
            have HWP := Aside0.mk (below_step HWQ.out hB7)
            have HBP := Aside0.mk ((hB7.block _ (blk_lt HBQ.out)).trans HBQ.out)
            have HMP := Aside0.mk (HMQ.out.below hB7)
            have HRP := Aside0.mk (Kd.R_below HRQ.out hB7)
            have hcell7 : w7.cell? ⟨w2.heap.size, 0, none⟩ = some (.slice A5 l5.length c5) := blk_cell HBP.out 0
            clear hB7 hD7 HWQ HBQ HMQ HRQ HUQ hcell6 hfz6 hlt6
            go_wp2_with fail
            refine (like_is' HMP.out A5 c5 l5 HL5.out _ rfl (Kd.R_reads' HRP.out).2.2 hc5).mono ?_
            rintro e wL ⟨rfl, hBL⟩
            have HEND := Aside0.mk (show RI w wL w2.heap.size g p from ⟨T, A5, c5, l5, HL5.out, HMP.out.below hBL, Kd.R_below HRP.out hBL, (hBL.block _ (blk_lt HBP.out)).trans HBP.out, HGg.out, below_step HWP.out hBL⟩)
            clear hBL
            go_wp2
            go_roundg k1
            case measure => omega
            case rel => exact ⟨i + 1, g, by simp, rfl, ⟨by have := HI.out; omega⟩, ⟨by have := HI.out; omega⟩, HEND⟩
          ·
            have HT := Aside0.mk (show 0 ≤ x.f2 ∧ x.f2 ≤ 64 ∧ 2 * x.f2 ≤ (p : Int) - (tkN T p).length from ⟨by omega, by omega, by omega⟩)
            obtain ⟨T2, out2, ht3⟩ : ∃ T2 out2, takeL p x.f2 (p + 1) T (-1) 0 [] = (T2, out2) := ⟨_, _, rfl⟩
            have HT2 := Aside0.mk ht3
            have hout : out2.length ≤ 512 := by have := takeL_few p x.f2 (p + 1) T (-1) 0 []; rw [ht3] at this; simp at this; omega
            clear ht3
            refine (take_ok (HM.out.below HBX.out) x.f2 (by omega) (by omega) (by omega) T2 out2 HT2.out).mono ?_
            rintro e w5 ⟨v5, rfl, hR5v, hm5, hg5⟩
            obtain ⟨A7, c7, rfl, hc7, hC7⟩ := Kd.R_reads hR5v
            have HP5 := Aside0.mk (Kd.R_lower hR5v (below_step HB.out HBX.out).size)
            have HM5 := Aside0.mk hm5
            have HGR := Aside0.mk hg5
            clear hm5 hg5 hR5v hC7
            have HW5 := Aside0.mk (show Below w.heap.size w w5 from pw_below_grown (below_step HB.out HBX.out) _ (below_step HB.out HBX.out).size HGR.out (fun k e => by injection e with e; have := HGg.out; omega))
            have HR5 := Aside0.mk (Kd.R_mono (Kd.R_grown (Kd.R_types (Kd.R_below HR.out HBX.out) (HM.out.below HBX.out).blk (fun q hq => by simp [Kd.bool, Kd.scalar] at hq; rw [hq]; decide)) HGR.out (fun k hk he => by injection he with he; exact hk.2 he)) (fun _ _ => trivial))
            have hb5 : w5.heap[w2.heap.size]? = some (.cells #[.slice A4 l1.length c4] 31 (0, 0)) := blk_grown (blk_alloc HB8.out _) HGR.out (fun e => by injection e with e; exact blk_ne HM.out.blk HB8.out (by decide) e.symm)
            have hbS : w5.heap[wr.heap.size]? = some (.cells #[.int .u8 x.f0, .slice A' x.f1.length c', .int .i64 x.f2] 55 (0, 0)) := blk_grown (blk_new wr _) HGR.out (fun e => by injection e with e; have := HM.out.lt; omega)
            have HB5 := Aside0.mk hb5
            have hcell5 : w5.cell? ⟨w2.heap.size, 0, none⟩ = some (.slice A4 l1.length c4) := blk_cell hb5 0
            have hcellS : w5.cell? ⟨wr.heap.size, 2, none⟩ = some (.int .i64 x.f2) := blk_cell hbS 2
            clear hb5 hbS HM HR HB8 hcell8
            go_wp2_with fail
            have hcf := takeF_ok 2000 (by omega) p T HT511.out hnp x.f2 HT.out.1 HT.out.2.1 HT.out.2.2 T2 out2 HT2.out
            rw [← HL1.out] at hcf
            have HCF := Aside0.mk hcf
            clear hcf
            refine (rtake_is HW5.out HR5.out x.f2 _ _ _ _ HCF.out).mono ?_
            rintro e w6 ⟨v', u', rfl, hR6, hU6, hB6, hK6⟩
            obtain ⟨l5, hl5⟩ : ∃ l5, l5 = T2.take p := ⟨_, rfl⟩
            rw [← hl5] at hR6
            have HL5 := Aside0.mk hl5
            obtain ⟨A5, c5, rfl, hc5, hC5⟩ := Kd.R_reads hR6
            obtain ⟨A8, c8, rfl, hc8, hC8⟩ := Kd.R_reads hU6
            have hb6 : w6.heap[w2.heap.size]? = some (.cells #[.slice A4 l1.length c4] 31 (0, 0)) := blk_keptV HB5.out (by decide) hK6 HR5.out
            have hM6 := HM5.out.kept hK6 HR5.out
            obtain ⟨q1, q2, q3, q4⟩ := box_put hB6 HG8.out hb6 hM6 hR6
            have HWQ := Aside0.mk (below_step q1 (below_alloc (Below.refl _ _) (.cells #[.slice A5 l5.length c5] 31)))
            have HBQ := Aside0.mk (blk_alloc q2 (.cells #[.slice A5 l5.length c5] 31))
            have HMQ := Aside0.mk (q3.below (below_alloc (Below.refl _ _) (.cells #[.slice A5 l5.length c5] 31)))
            have HRQ := Aside0.mk (Kd.R_alloc q4 (.cells #[.slice A5 l5.length c5] 31))
            have HUQ := Aside0.mk (Kd.R_reads' (Kd.R_alloc (Kd.R_set hU6 hb6 ty44 0 (.slice A5 l5.length c5)) (.cells #[.slice A5 l5.length c5] 31))).2.2
            have hcell6 : w6.cell? ⟨w2.heap.size, 0, none⟩ = some (.slice A4 l1.length c4) := blk_cell hb6 0
            have hfz6 : w6.frozen? ⟨w2.heap.size, 0, none⟩ = false := blk_frozen hb6 0
            have hlt6 : w2.heap.size < w6.heap.size := blk_lt hb6
            have hPW := Kd.R_mono (Kd.R_kept (Kd.R_mono (Kd.R_bound HP5.out) (fun k hk => show ¬ (.slice A4 l1.length c4 : Value).ownBlock = some k from fun he => by
              obtain ⟨cs, hcs⟩ := Kd.R_typed HR5.out k he
              obtain ⟨q, hq, cs2, hcs2⟩ := hk.2.2.2
              have hq44 : q = 44 := by simpa [k44, Kd.iso, Kd.pair, Kd.int, Kd.scalar] using hq
              rw [hcs] at hcs2
              injection hcs2 with hcs2
              injection hcs2 with _ hcs2
              rw [hq44] at hcs2
              cases hcs2)) hK6 (fun k hk => hk)) (fun _ _ => (trivial : True))
            have HPQ := Aside0.mk (Kd.R_reads' (Kd.R_alloc (Kd.R_set hPW hb6 ty44 0 (.slice A5 l5.length c5)) (.cells #[.slice A5 l5.length c5] 31))).2.2
            clear hPW
            clear hl5 hb6 hM6 q1 q2 q3 q4 hR6 hU6 hB6 hK6 hC5 hC8 HR5 HB5 HM5 hcell5 hcellS
            go_wp2_with fail
            refine (lienlaw06_pairs.calls 100001 A7 c7 out2 A8 c8 out2 true _ HPQ.out hc7 HUQ.out hc8 (pairs_is out2 (by omega))).mono ?_
            rintro e w7 ⟨rfl, hD7⟩
            have hB7 := hD7.below
            have HWP := Aside0.mk (below_step HWQ.out hB7)
            have HBP := Aside0.mk ((hB7.block _ (blk_lt HBQ.out)).trans HBQ.out)
            have HMP := Aside0.mk (HMQ.out.below hB7)
            have HRP := Aside0.mk (Kd.R_below HRQ.out hB7)
            have hcell7 : w7.cell? ⟨w2.heap.size, 0, none⟩ = some (.slice A5 l5.length c5) := blk_cell HBP.out 0
            clear hB7 hD7 HWQ HBQ HMQ HRQ HUQ hcell6 hfz6 hlt6
            go_wp2_with fail
            refine (like_is' HMP.out A5 c5 l5 HL5.out _ rfl (Kd.R_reads' HRP.out).2.2 hc5).mono ?_
            rintro e wL ⟨rfl, hBL⟩
            have HEND := Aside0.mk (show RI w wL w2.heap.size g p from ⟨T2, A5, c5, l5, HL5.out, HMP.out.below hBL, Kd.R_below HRP.out hBL, (hBL.block _ (blk_lt HBP.out)).trans HBP.out, HGg.out, below_step HWP.out hBL⟩)
            clear hBL
            go_wp2
            go_roundg k1
            case measure => omega
            case rel => exact ⟨i + 1, g, by simp, rfl, ⟨by have := HI.out; omega⟩, ⟨by have := HI.out; omega⟩, HEND⟩
      ·
        go_wp2_with fail
        refine (few_is' A' x.f1 L HL.out c' hcl _).mono ?_
        rintro e w' ⟨rfl, rfl⟩
        go_wp2_with fail
        refine (fork_is (HM.out.below HBX.out)).mono ?_
        rintro e w5 ⟨g5, hg5, rfl, hm5, hB5⟩
        have HM5 := Aside0.mk hm5
        have HG5 := Aside0.mk hg5
        have HBW := Aside0.mk (below_step HBX.out hB5)
        have HMO := Aside0.mk (HM.out.below HBW.out)
        clear hm5 hg5 hB5
        go_wp2_with fail
        refine (take_any HMO.out 1).mono ?_
        rintro e w6 ⟨v1, v2, rfl, hg6⟩
        have HGR := Aside0.mk hg6
        have HW6 := Aside0.mk (show Below w.heap.size w w6 from pw_below_grown (below_step HB.out HBW.out) _ (below_step HB.out HBW.out).size hg6 (fun k e => by injection e with e; have := HGg.out; omega))
        have hgw := HM.out.lt
        have hg5w : wr.heap.size ≤ g5 := Nat.le_trans HBX.out.size HG5.out
        have HMP := Aside0.mk (HM5.out.grown hg6 (fun e => by injection e with e; omega))
        have HRP := Aside0.mk (Kd.R_mono (Kd.R_grown (Kd.R_types (Kd.R_below HR.out HBW.out) HMO.out.blk (fun q hq => by simp [Kd.bool, Kd.scalar] at hq; rw [hq]; decide)) hg6 (fun k hk he => by injection he with he; exact hk.2 he)) (fun _ _ => trivial))
        have HBP := Aside0.mk (show w6.heap[w2.heap.size]? = some (.cells #[.slice A4 l1.length c4] 31 (0, 0)) from blk_grown ((HBW.out.block _ (blk_lt HB8.out)).trans HB8.out) hg6 (fun e => by injection e with e; exact blk_ne HM.out.blk HB8.out (by decide) e.symm))
        have hcell7 : w6.cell? ⟨w2.heap.size, 0, none⟩ = some (.slice A4 l1.length c4) := blk_cell HBP.out 0
        have HG5W := Aside0.mk (show w.heap.size ≤ g5 from Nat.le_trans HB.out.size hg5w)
        have hc4 := (Kd.R_reads' HRP.out).2.1
        clear hg6 hgw hg5w HM HR HB8 hcell8
        go_wp2_with fail
        refine (like_is' HMP.out A4 c4 l1 HL1.out _ rfl (Kd.R_reads' HRP.out).2.2 hc4).mono ?_
        rintro e wL ⟨rfl, hBL⟩
        have HEND := Aside0.mk (show RI w wL w2.heap.size g5 p from ⟨T, A4, c4, l1, HL1.out, HMP.out.below hBL, Kd.R_below HRP.out hBL, (hBL.block _ (blk_lt HBP.out)).trans HBP.out, HG5W.out, below_step HW6.out hBL⟩)
        clear hBL
        go_wp2
        go_roundg k1
        case measure => omega
        case rel => exact ⟨i + 1, g5, by simp, rfl, ⟨by have := HI.out; omega⟩, ⟨by have := HI.out; omega⟩, HEND⟩
    ·
      have hcell8 : wr.cell? ⟨w2.heap.size, 0, none⟩ = some (.slice A4 l1.length c4) := blk_cell HB8.out 0
      have hc4 := (Kd.R_reads' HR.out).2.1
      have hle : i ≤ l.length := by have := HI.out; have := HZ.out; omega
      by_cases hi1 : i < l.length
      all_goals
        go_wp2_with fail
        refine (like_is' HM.out A4 c4 l1 HL1.out _ rfl (Kd.R_reads' HR.out).2.2 hc4).mono ?_
        rintro e wL ⟨rfl, hBL⟩
        go_wp2
        go_ret
        exact ⟨rfl, below_step HB.out hBL⟩
end Go.Proofs.Ytcfokcdmkhljoaa.Sp
