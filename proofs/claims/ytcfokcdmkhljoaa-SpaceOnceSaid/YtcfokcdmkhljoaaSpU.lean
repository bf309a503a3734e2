/- Layer 6, space: the walk of the statement SpaceOrder. -/
import Derived.Test.YtcfokcdmkhljoaaSpT
import Derived.StillTailTactics
namespace Go.Proofs.Ytcfokcdmkhljoaa.Sp
open Go.RowKit Go.Proofs.YtcfokcdmkhljoaaW.PrintWords Go.Proofs.YtcfokcdmkhljoaaW.PrintLast Go.Proofs.YtcfokcdmkhljoaaW.PrintMore
open Go.Proofs.Ytcfokcdmkhljoaa.PSpaceRuns
set_option linter.unusedVariables false
set_option linter.unusedSimpArgs false

theorem R_grown_old {α : Type} {d : Kd α} {e base g : Nat} {ok : Nat → Prop} {W W1 : World} {v : Value} {xs : List α} (h : d.R e W base ok v xs) (hg : W.grownBy W1 (some g)) (hlt : g < base) : d.R e W1 base ok v xs :=
  Kd.R_mono (Kd.R_grown (Kd.R_bound h) hg (fun k hk he => by have := hk.2.1; injection he with he; omega)) (fun k hk => hk.1)
def ClaimX (p : Nat) (L : List S44) (T : List Bool) (x : Int) (T2 : List Bool) : Prop := (∃ e, allR true 61 p L T = .error e ∧ x = e ∧ T2 = T) ∨ (allR true 61 p L T = .ok T2 ∧ x = 0)
theorem order_pre (p : Nat) (hp : p ≤ 511) (L : List S44) : ∃ x y T1, ClaimX p L zT x T1 ∧ ClaimX p (turnedL L) zT y T1 ∧ (x == 0) = (y == 0) ∧ refOut (zT.take p) p (allR true 61 p L zT) = (T1.take p, x) := by
  unfold ClaimX
  have h1 := allR_seq true 61 p L zT
  have h2 := allR_seq true 61 p (turnedL L) zT
  cases hR : allR true 61 p L zT with
  | ok T1 =>
    rw [hR] at h1
    have h3 := seq_perm p _ _ (turnedL_flat L) zT T1 zT_len hp h1.symm
    rw [h3] at h2
    exact ⟨0, 0, T1, .inr ⟨rfl, rfl⟩, .inr ⟨h2, rfl⟩, rfl, rfl⟩
  | error e =>
    cases hR2 : allR true 61 p (turnedL L) zT with
    | ok T2 =>
      rw [hR2] at h2
      have h3 := seq_perm p _ _ (turnedL_flat L).symm zT T2 zT_len hp h2.symm
      rw [h3, hR] at h1
      cases h1
    | error e2 =>
      refine ⟨e, e2, zT, .inl ⟨e, rfl, rfl, rfl⟩, .inl ⟨e2, rfl, rfl, rfl⟩, ?_, rfl⟩
      rcases allR_err hR with rfl | rfl <;> rcases allR_err hR2 with rfl | rfl <;> rfl
theorem C_old {w W : World} {A : Option Addr} {L : List S44} (h : Kd.C k44 w A L.length L) (hb : Below w.heap.size w W) {g : Nat} (hg : w.heap.size ≤ g) : ∀ W_, W.grownBy W_ (some g) → Kd.C k44 W_ A L.length L := fun W_ hk =>
  Kd.C_below h (pw_below_grown hb _ hb.size hk (fun k e => by injection e with e; omega))
theorem C_oldV {w W : World} {A : Option Addr} {L : List S44} (h : Kd.C k44 w A L.length L) (hb : Below w.heap.size w W) {v : Value} {l : List Bool} {ok : Nat → Prop} (hv : Kd.R Kd.bool 4 W w.heap.size ok v l) : ∀ W_, KeptV W W_ v → Kd.C k44 W_ A L.length L :=
  Kd.C_kept_came heap44 h hb (fun k hk => Kd.R_base hv k hk)
set_option maxHeartbeats 8000000 in
set_option maxRecDepth 100000 in
theorem order_walk (a0 : Int) (w0 : (Lit.int .u16 a0).wf = true) (A : Option Addr) (c : Nat) (l : List S44) (w : World) (hC : Kd.C k44 w A l.length l) (hc : l.length ≤ c) (hG : l.length * 16 ≤ 140737488351232 ∧ l.length ≤ 9223372036854775807 ∧ ∀ a ∈ l, True) :
    Calls Try.prog 5 #[.int .u16 a0, .slice A l.length c] w fun e w' => e = .returned (.bool true) ∧ Below w.heap.size w w' := by
  obtain ⟨b0, b1⟩ := u16_bd w0
  have hn0 : 0 ≤ a0 % 700 := by omega
  have hn1 : a0 % 700 ≤ 4096 := by omega
  have hnp := nplots_le hn1
  obtain ⟨L, hL⟩ : ∃ L, L = l.take 300 := ⟨_, rfl⟩
  have hLl : L.length ≤ 300 := by rw [hL, List.length_take]; omega
  have hLc : L.length ≤ c := by rw [hL, List.length_take]; omega
  have hCL : Kd.C k44 w A L.length L := by
    by_cases h3 : l.length ≤ 300
    · rw [hL, List.take_of_length_le h3]; exact hC
    · rw [hL]; exact Kd.C_take hC (by omega)
  have hL16 : L.length * 16 ≤ 140737488351232 := by omega
  obtain ⟨p, hp⟩ : ∃ p, p = nplots (a0 % 700) := ⟨_, rfl⟩
  rw [← hp] at hnp
  obtain ⟨x, y, T1, hx, hy, hxy, href⟩ := order_pre p hnp L
  have HX := Aside0.mk hx
  have HY := Aside0.mk hy
  have HREF := Aside0.mk href
  have HCL := Aside0.mk hCL
  have HP := Aside0.mk hp
  have HL := Aside0.mk hL
  have HL16 := Aside0.mk hL16
  have HXY := Aside0.mk hxy
  clear hx hy href hCL hp hL hL16 hC hG w0 hxy
  go_enter Try.func5, Try.ntmps5
  go_wp2_with fail
  refine (few_is' A l L HL.out c hc _).mono ?_
  rintro e w' ⟨rfl, rfl⟩
  go_wp2_with fail
  refine (new_is (a0 % 700) hn0 hn1).mono ?_
  rintro e w1 ⟨g1, hg1, rfl, hm1, hB1⟩
  rw [← HP.out] at hm1
  have HM1 := Aside0.mk hm1
  have HG1 := Aside0.mk hg1
  have HB1 := Aside0.mk hB1
  clear hm1 hg1 hB1
  go_wp2_with fail
  refine (new_is (a0 % 700) hn0 hn1).mono ?_
  rintro e w2 ⟨g2, hg2, rfl, hm2, hB2⟩
  rw [← HP.out] at hm2
  have HM2 := Aside0.mk hm2
  have HG2 := Aside0.mk hg2
  have HB2 := Aside0.mk hB2
  clear hm2 hg2 hB2
  go_wp2_with fail
  refine (awake_is _).mono ?_
  rintro e w3 ⟨rfl, hB3⟩
  have HB3 := Aside0.mk hB3
  clear hB3
  go_wp2_with fail
  have HW3 := Aside0.mk (show Below w.heap.size w w3 from below_step (below_step HB1.out HB2.out) HB3.out)
  go_loopg [10, 11] (L.length + 1) (fun kq v10 v11 W => ∃ j : Nat, v11 = .int .i64 ((j : Int) - 1) ∧ Aside0 (kq = j + 1) ∧ Aside0 (j ≤ L.length) ∧ Aside0 (Kd.R k44 44 W w3.heap.size (fun _ => True) v10 (turnedL (L.drop j))) ∧ Aside0 (Below w3.heap.size w3 W))
  case atStart => exact ⟨L.length, rfl, ⟨rfl⟩, ⟨Nat.le_refl _⟩, ⟨by rw [List.drop_length]; exact Kd.R_nil _ _ _ _ _⟩, ⟨Below.refl _ _⟩⟩
  case round =>
    obtain ⟨j, rfl, HK, HJ, HR, HB⟩ := hrel
    by_cases hj : 1 ≤ j
    · obtain ⟨k1, rfl⟩ : ∃ k1, gk = k1 + 1 := ⟨j, HK.out⟩
      obtain ⟨i, rfl⟩ : ∃ i : Nat, j = i + 1 := ⟨j - 1, by omega⟩
      have hiL := HJ.out
      obtain ⟨ad, rfl, hy0, hy1⟩ := at_T44 (Kd.C_below HCL.out HW3.out) (i : Int) (by omega) (by omega)
      simp only [Int.toNat_natCast] at hy0 hy1
      have hlt0 : (ad.add (i * 2)).block < w3.heap.size := World.block_lt_of_cell? w3 _ hy0
      have hx0 := pw_cell_below HB.out hy0
      have hx1 := pw_cell_below HB.out hy1
      have HLT := Aside0.mk hlt0
      clear hy0 hy1 hlt0
      have ei : (((i + 1 : Nat) : Int) - 1) = (i : Int) := by omega
      rw [ei]
      have hi0 : (0 : Int) ≤ (i : Int) := by omega
      have hi1 : (i : Int) < (L.length : Int) := by omega
      obtain ⟨x1, hx1e⟩ : ∃ z, z = rd_T44 L (i : Int) := ⟨_, rfl⟩
      rw [← hx1e] at hx0 hx1
      have HXE := Aside0.mk hx1e
      clear ei hj hx1e
      have hs0 := HR.out
      have hBr := HB.out.size
      have hbd : ((turnedL (L.drop (i + 1))).length + 1) * 16 ≤ 140737488355328 := by
        have : (turnedL (L.drop (i + 1))).length ≤ 300 := by simp [turnedL]; omega
        omega
      go_wp2_with fail
      go_region_held3 (fun W => W.cell? (ad.add (i * 2)) = some (.int .i64 x1.f0) ∧ W.cell? ⟨(ad.add (i * 2)).block, (ad.add (i * 2)).off + 1, none⟩ = some (.int .i64 x1.f1))
        (first
          | exact ⟨hx0, hx1⟩
          | exact ⟨(World.cell?_alloc_lt _ _ _ (World.block_lt_of_cell? wr _ hx0)).trans hx0, (World.cell?_alloc_lt _ _ _ (World.block_lt_of_cell? wr _ hx1)).trans hx1⟩
          | exact ⟨(hb.cell HLT.out).trans hx0, (hb.cell (p := ⟨(ad.add (i * 2)).block, (ad.add (i * 2)).off + 1, none⟩) HLT.out).trans hx1⟩
          | trace_state)
        ((refine Kd.R_append_step k44 (w0 := wr.drew) (W := wr.drew) w3.heap.size (by rfl) (.tmp 58) (.tmp 70) 42 44 (.agg #[(.int .i64 0), (.int .i64 0)]) 16 rfl Try.underlying42 info44 rfl (by decide) (by omega) u10 (turnedL (L.drop (i + 1))) (⟨x1.f1, x1.f0⟩ : S44) [.int .i64 x1.f1, .int .i64 x1.f0] (fun _ => True) (fun _ => False) rfl rfl (k44_mkM _ _ _ _) (fun _ hk => hk.elim) (fun _ _ => trivial) (Kd.R_drew hs0) (Below.refl _ _) hBr hbd ?_; intro v1 w4 ho hb hg hat))
      have n1 := Aside0.mk ho
      have n2 := Aside0.mk (show Below w3.heap.size w3 w4 from below_weaken HB.out (Nat.le_refl _) ⟨hb.os, hb.tape, hb.output, hb.size, hb.block⟩)
      clear ho hb hg hat hs0 hBr hbd hx0 hx1
      go_wp2
      go_roundg k1
      case measure => omega
      case rel =>
        refine ⟨i, rfl, ⟨by have := HK.out; omega⟩, ⟨by omega⟩, ⟨?_⟩, n2⟩
        have h1 := n1.out
        have e : turnedL (L.drop i) = turnedL (L.drop (i + 1)) ++ [⟨x1.f1, x1.f0⟩] := by
          rw [drop_rd L i (by omega), ← HXE.out]
          simp [turnedL]
        rw [e]
        exact h1
    · obtain rfl : j = 0 := by omega
      have hr := HR.out
      rw [List.drop_zero] at hr
      obtain ⟨A2, c2, rfl, hc2, hC2⟩ := Kd.R_reads hr
      have HR2 := Aside0.mk hr
      clear hr HR hC2
      have HWR := Aside0.mk (show Below w.heap.size w wr from below_step HW3.out HB.out)
      have hm1 := Aside0.mk ((((HM1.out.below HB2.out).below HB3.out)).below HB.out)
      have hm2 := Aside0.mk ((HM2.out.below HB3.out).below HB.out)
      have HLE2 := Aside0.mk (show w.heap.size ≤ g2 from Nat.le_trans HB1.out.size HG2.out)
      have HLT1 := Aside0.mk (show g1 < w1.heap.size from HM1.out.lt)
      have HLT2 := Aside0.mk (show g2 < w3.heap.size from (HM2.out.below HB3.out).lt)
      go_wp2_with fail
      refine (claim_e hm1.out A c L (C_old HCL.out HWR.out HG1.out) hLc x T1 HX.out).mono ?_
      rintro e w5 ⟨rfl, hm5, hg5⟩
      have HM5 := Aside0.mk hm5
      have HGR5 := Aside0.mk hg5
      clear hm5 hg5
      have HR5 := Aside0.mk (R_grown_old HR2.out HGR5.out (Nat.lt_of_lt_of_le HLT1.out (Nat.le_trans HB2.out.size HB3.out.size)))
      have HW5 := Aside0.mk (show Below w.heap.size w w5 from pw_below_grown HWR.out _ HWR.out.size HGR5.out (fun k e => by injection e with e; have := HG1.out; omega))
      have hne : g1 ≠ g2 := by have := HLT1.out; have := HG2.out; omega
      have HNE := Aside0.mk hne
      have HM25 := Aside0.mk (hm2.out.grown HGR5.out (fun e => by injection e with e; exact HNE.out e.symm))
      clear hne hm1 hm2 HR2
      go_wp2_with fail
      refine (claim_e HM25.out A2 c2 (turnedL L) (fun W_ hg => (Kd.R_reads' (R_grown_old HR5.out hg HLT2.out)).2.2) hc2 y T1 HY.out).mono ?_
      rintro e w6 ⟨rfl, hm6, hg6⟩
      have HM26 := Aside0.mk hm6
      have HM16 := Aside0.mk (HM5.out.grown hg6 (fun e => by injection e with e; exact HNE.out e))
      have HW6 := Aside0.mk (show Below w.heap.size w w6 from pw_below_grown HW5.out _ HW5.out.size hg6 (fun k e => by injection e with e; have := HLE2.out; omega))
      clear hm6 hg6 HM25 HM5 HR5
      go_wp2_with fail
      refine (lienref06_New.calls 513 (a0 % 700) _ _ _ (ref_new (a0 % 700) hn0 hn1)).mono ?_
      rintro e w7 ⟨v, rfl, hR, hB⟩
      obtain ⟨l0, hl0⟩ : ∃ l0, l0 = zT.take p := ⟨_, rfl⟩
      rw [← HP.out, ← zT_take p hnp, ← hl0] at hR
      have HL0 := Aside0.mk hl0
      obtain ⟨A3, c3, rfl⟩ := Kd.R_slice hR
      have HW7 := Aside0.mk (below_step HW6.out hB)
      have HV := Aside0.mk (Kd.R_lower (R_any hR) HW6.out.size)
      have HM17 := Aside0.mk (HM16.out.below hB)
      have HM27 := Aside0.mk (HM26.out.below hB)
      clear hR hB HM16 HM26 hl0
      go_wp2_with fail
      have hcf := claimF p zT zT_len hnp L HL16.out (4 * L.length + 2) (by omega)
      rw [HREF.out, ← HL0.out] at hcf
      have HB8 := Aside0.mk (below_step HW7.out (below_alloc (Below.refl _ _) (.cells #[.slice A3 l0.length c3] 31)))
      have HV8 := Aside0.mk (Kd.R_alloc HV.out (.cells #[.slice A3 l0.length c3] 31))
      refine (rclaim_is HB8.out HV8.out A c L (C_oldV HCL.out HB8.out HV8.out) hLc _ _ _ hcf).mono ?_
      rintro e w8 ⟨v', rfl, hR, hB, hK⟩
      obtain ⟨l1, hl1⟩ : ∃ l1, l1 = T1.take p := ⟨_, rfl⟩
      rw [← hl1] at hR
      have HL1 := Aside0.mk hl1
      obtain ⟨A4, c4, rfl, hc4, hC4⟩ := Kd.R_reads hR
      have HC4 := Aside0.mk hC4
      have HW8 := Aside0.mk hB
      have HM18 := Aside0.mk ((HM17.out.below (below_alloc (Below.refl _ _) (.cells #[.slice A3 l0.length c3] 31))).kept hK HV8.out)
      have HM28 := Aside0.mk ((HM27.out.below (below_alloc (Below.refl _ _) (.cells #[.slice A3 l0.length c3] 31))).kept hK HV8.out)
      have hq : ((x == 0) == (y == 0)) = true := by rw [HXY.out]; simp
      clear hR hB hK HM17 HM27 HV8 HB8 HV HL0 hcf hl1 hC4
      go_wp2_with fail
      have HA8 := Aside0.mk (below_alloc (Below.refl w8.heap.size w8) (.cells #[.slice A4 l1.length c4] 31))
      refine (like_is' (HM18.out.below HA8.out) A4 c4 l1 HL1.out _ rfl (Kd.C_below HC4.out HA8.out) hc4).mono ?_
      rintro e w9 ⟨rfl, hB9⟩
      have HA9 := Aside0.mk (below_step HA8.out hB9)
      have hcell : w9.cell? ⟨w8.heap.size, 0, none⟩ = some (.slice A4 l1.length c4) := pw_cell_below hB9 (blk_cell (blk_new w8 (.cells #[.slice A4 l1.length c4] 31)) 0)
      clear hB9
      go_wp2_with fail
      refine (like_is' (HM28.out.below HA9.out) A4 c4 l1 HL1.out _ rfl (Kd.C_below HC4.out HA9.out) hc4).mono ?_
      rintro e w10 ⟨rfl, hB10⟩
      go_wp2
      go_ret
      exact ⟨rfl, below_step (below_step HW8.out HA9.out) hB10⟩
theorem order_walk' (a0 : Int) (w0 : (Lit.int .u16 a0).wf = true) (A : Option Addr) (c : Nat) (l : List S44) {w : World} (hC : Kd.C k44 w A l.length l) (hc : l.length ≤ c) (hG : l.length * 16 ≤ 140737488351232 ∧ l.length ≤ 9223372036854775807 ∧ ∀ a ∈ l, True) (_w : World) :
    Calls Try.prog 5 #[.int .u16 a0, .slice A l.length c] w fun e w' => e = .returned (.bool true) ∧ Below w.heap.size w w' := order_walk a0 w0 A c l w hC hc hG
end Go.Proofs.Ytcfokcdmkhljoaa.Sp
