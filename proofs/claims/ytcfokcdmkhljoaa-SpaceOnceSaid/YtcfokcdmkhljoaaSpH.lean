/- Layer 6, space: what the statements' own helpers come to: few, like, awake. -/
import Derived.Test.YtcfokcdmkhljoaaSpG
import Derived.Test.YtcfokcdmkhljoaaPSpaceRunsx
namespace Go.Proofs.Ytcfokcdmkhljoaa.Sp
open Go.RowKit Go.Proofs.YtcfokcdmkhljoaaW.PrintWords Go.Proofs.YtcfokcdmkhljoaaW.PrintLast Go.Proofs.YtcfokcdmkhljoaaW.PrintMore
open Go.Proofs.Ytcfokcdmkhljoaa.PSpaceRuns
set_option linter.unusedVariables false
set_option linter.unusedSimpArgs false

theorem few_is (A : Option Addr) (n c : Nat) (hc : n ≤ c) (w : World) :
    Calls Try.prog 21 #[.slice A n c] w fun e w' => e = .returned (.slice A (min n 300) c) ∧ w' = w := by
  by_cases h : 300 < n
  · have hmin : min n 300 = 300 := by omega
    rw [hmin]
    go_enter Try.func21, Try.ntmps21
    go_wp2
    go_ret
    exact ⟨rfl, rfl⟩
  · have hmin : min n 300 = n := by omega
    rw [hmin]
    go_enter Try.func21, Try.ntmps21
    go_wp2
    go_ret
    exact ⟨rfl, rfl⟩

theorem keepS {w W W1 : World} {a : Addr} {v : Value} (h : Below w.heap.size w W) (hc : W.cell? a = some v) (hb : Below W.heap.size W W1) : Below w.heap.size w W1 ∧ W1.cell? a = some v :=
  ⟨below_step h hb, pw_cell_below hb hc⟩
set_option maxHeartbeats 4000000 in
set_option maxRecDepth 100000 in
theorem like_is {w : World} {g : Nat} {T : List Bool} {p : Nat} (h : MapAt w g T p) (A : Option Addr) (c : Nat) (l : List Bool) (hr : Kd.C Kd.bool w A l.length l) (hc : l.length ≤ c)
    (kl : Nat) (hL : lienref06_List.f kl l = some (tkN T p)) (kf : Nat) (hF : lienref06_Free.f kf l = some ((p : Int) - (tkN T p).length)) (hp : p = l.length) :
    Calls Try.prog 14 #[.pointer (some ⟨g, 0, none⟩), .agg #[.slice A l.length c]] w fun e w' => e = .returned (.bool true) ∧ Below w.heap.size w w' := by
  have H := Aside0.mk h
  have HR := Aside0.mk hr
  have HC := Aside0.mk hc
  have HLL := Aside0.mk hL
  have HFF := Aside0.mk hF
  have HP := Aside0.mk hp
  clear h hr hc hL hF hp
  go_enter Try.func14, Try.ntmps14
  go_wp2_with (first | ((with_reducible refine gate_dst (N := 3) rfl ?_); refine box_agg_event rfl (N := 3) rfl rfl rfl ?_; intro g2 hg2 w2 hb2 hB2 _; have HG := Aside0.mk hg2; have HB2 := Aside0.mk hB2; have HC2 := Aside0.mk (blk_cell hb2 0); clear hg2 hB2 hb2))
  have hc2 : w2.cell? ⟨g2, 0, none⟩ = some (.slice A l.length c) := HC2.out.trans rfl
  have hb2 := HB2.out
  go_region_held3 (fun W => Below w.heap.size w W ∧ W.cell? ⟨g2, 0, none⟩ = some (.slice A l.length c))
    (first
      | exact keepS hb2 hc2 (below_drew (Below.refl _ _))
      | exact keepS (show Below w.heap.size w _ ∧ World.cell? _ ⟨g2, 0, none⟩ = some (.slice A l.length c) from by assumption).1 (show Below w.heap.size w _ ∧ World.cell? _ ⟨g2, 0, none⟩ = some (.slice A l.length c) from by assumption).2 hB1
      | exact keepS (show Below w.heap.size w _ ∧ World.cell? _ ⟨g2, 0, none⟩ = some (.slice A l.length c) from by assumption).1 (show Below w.heap.size w _ ∧ World.cell? _ ⟨g2, 0, none⟩ = some (.slice A l.length c) from by assumption).2 hB3)
    (first
      | (go_at_call 19; refine (taken_is (H.out.below (show Below w.heap.size w _ ∧ World.cell? _ ⟨g2, 0, none⟩ = some (.slice A l.length c) from by assumption).1)).mono ?_; rintro e w3 ⟨v1, rfl, hR1, hB1⟩)
      | (go_at_call 28; refine (lienref06_List.calls kl A c l _ _ (Kd.C_below HR.out (show Below w.heap.size w _ ∧ World.cell? _ ⟨g2, 0, none⟩ = some (.slice A l.length c) from by assumption).1) HC.out HLL.out).mono ?_; rintro e w4 ⟨v2, rfl, hR2, hB3⟩))
  obtain ⟨hbb, hcc⟩ := (show Below w.heap.size w w4 ∧ World.cell? w4 ⟨g2, 0, none⟩ = some (.slice A l.length c) from by assumption)
  replace hR1 := Kd.R_below hR1 hB3
  obtain ⟨A1, c1, rfl, hk1, hC1⟩ := Kd.R_reads hR1
  obtain ⟨A2, c2, rfl, hk2, hC2⟩ := Kd.R_reads hR2
  have K1 := Aside0.mk hC1
  have K2 := Aside0.mk hC2
  clear hb2 hc2 HC2 HB2 hB1 hB3 hR1 hR2 hC1 hC2 HLL
  go_wp2_with fail
  have q1 : (((tkN T p).length : Nat) != (tkN T p).length) = false := by simp
  have q1' : (((tkN T p).length : Int) != ((tkN T p).length : Int)) = false := by simp
  have q2 : ((p : Int) != (l.length : Int)) = false := by rw [HP.out]; simp
  have q2' : (p != l.length) = false := by rw [HP.out]; simp
  have q3 : ((p : Int) - (tkN T p).length != (p : Int) - (tkN T p).length) = false := by simp
  go_region_held3 (fun W => Below w.heap.size w W ∧ W.cell? ⟨g2, 0, none⟩ = some (.slice A l.length c))
    (first
      | exact keepS hbb hcc (below_drew (Below.refl _ _))
      | exact keepS (show Below w.heap.size w _ ∧ World.cell? _ ⟨g2, 0, none⟩ = some (.slice A l.length c) from by assumption).1 (show Below w.heap.size w _ ∧ World.cell? _ ⟨g2, 0, none⟩ = some (.slice A l.length c) from by assumption).2 hB5
      | exact keepS (show Below w.heap.size w _ ∧ World.cell? _ ⟨g2, 0, none⟩ = some (.slice A l.length c) from by assumption).1 (show Below w.heap.size w _ ∧ World.cell? _ ⟨g2, 0, none⟩ = some (.slice A l.length c) from by assumption).2 hB6
      | exact keepS (show Below w.heap.size w _ ∧ World.cell? _ ⟨g2, 0, none⟩ = some (.slice A l.length c) from by assumption).1 (show Below w.heap.size w _ ∧ World.cell? _ ⟨g2, 0, none⟩ = some (.slice A l.length c) from by assumption).2 hB7)
    (first
      | (go_at_call 16; refine (len_is (H.out.below (show Below w.heap.size w _ ∧ World.cell? _ ⟨g2, 0, none⟩ = some (.slice A l.length c) from by assumption).1)).mono ?_; rintro e w5 ⟨rfl, hD5⟩; have hB5 := hD5.below)
      | (go_at_call 20; refine (free_is (H.out.below (show Below w.heap.size w _ ∧ World.cell? _ ⟨g2, 0, none⟩ = some (.slice A l.length c) from by assumption).1)).mono ?_; rintro e w6 ⟨rfl, hB6⟩)
      | (go_at_call 29; refine (lienref06_Free.calls kf A c l _ _ (Kd.C_below HR.out (show Below w.heap.size w _ ∧ World.cell? _ ⟨g2, 0, none⟩ = some (.slice A l.length c) from by assumption).1) HC.out HFF.out).mono ?_; rintro e w7 ⟨rfl, hB7⟩))
  have hbf := (show Below w.heap.size w w7 ∧ World.cell? w7 ⟨g2, 0, none⟩ = some (.slice A l.length c) from by assumption).1
  have h47 : Below w4.heap.size w4 w7 := below_step (below_step (below_step (below_drew (Below.refl _ _)) hB5) hB6) hB7
  have J1 := Aside0.mk (Kd.C_below K1.out h47)
  have J2 := Aside0.mk (Kd.C_below K2.out h47)
  have HBF := Aside0.mk hbf
  have hmx := Kd.C_max K1.out
  clear q1 q1' q2 q2' q3 hD5 hB5 hB6 hB7 h47 hbf K1 K2 hbb hcc
  go_wp2_with fail
  go_loopg [7] ((tkN T p).length + 1) (fun kq v7 W => ∃ i : Nat, v7 = .int .i64 i ∧ Aside0 (kq + i = (tkN T p).length + 1) ∧ Aside0 (0 < kq) ∧ Aside0 (Drawn0 w7 W))
  case atStart => exact ⟨0, rfl, ⟨by omega⟩, ⟨by omega⟩, ⟨Drawn0.refl _⟩⟩
  case round =>
    obtain ⟨i, rfl, HI, HZ, HD⟩ := hrel
    obtain ⟨nd, hnd⟩ := HD.out
    subst hnd
    by_cases hi : i < (tkN T p).length
    · obtain ⟨ad1, rfl, hx1⟩ := Kd.at_int J1.out (i : Int) (by omega) (by omega)
      obtain ⟨ad2, rfl, hx2⟩ := Kd.at_int J2.out (i : Int) (by omega) (by omega)
      simp only [Int.toNat_natCast] at hx1 hx2
      have hi0 : (0 : Int) ≤ (i : Int) := by omega
      have hi1 : (i : Int) < ((tkN T p).length : Int) := by omega
      clear J1 J2
      obtain ⟨k1, rfl⟩ : ∃ k1, gk = k1 + 1 := ⟨gk - 1, by have := HZ.out; omega⟩
      go_wp2_with fail
      go_quiet (fail)
      go_wp2
      go_roundg k1
      case measure => omega
      case rel => exact ⟨i + 1, by go_num, ⟨by have := HI.out; omega⟩, ⟨by have := HI.out; omega⟩, ⟨⟨_, rfl⟩⟩⟩
    · go_wp2
      go_ret
      exact ⟨rfl, below_step HBF.out (pw_below_drewN (Below.refl _ _) _)⟩

def tA : List Bool := (zT.set 0 true).set 1 true
theorem takeA : takeL 3 1 (3 + 1) zT (-1) 0 [] = (tA, [⟨0, 1⟩]) := by kernel_rfl
theorem tkz : tkN zT 3 = [] := by kernel_rfl
theorem tkA : tkN tA 3 = [0, 1] := by kernel_rfl
theorem np30 : nplots 30 = 3 := by decide
attribute [local go_sem high] eqA44
set_option maxHeartbeats 4000000 in
set_option maxRecDepth 100000 in
theorem awake_is (w : World) : Calls Try.prog 15 #[] w fun e w' => e = .returned (.bool true) ∧ Below w.heap.size w w' := by
  go_enter Try.func15, Try.ntmps15
  go_wp2_with fail
  refine (new_is 30 (by decide) (by decide)).mono ?_
  rintro e w1 ⟨g, hg, rfl, hm, hB⟩
  rw [np30] at hm
  have HM := Aside0.mk hm
  have HB := Aside0.mk hB
  have HG := Aside0.mk hg
  clear hm hB hg
  go_wp2_with fail
  refine (len_is HM.out).mono ?_
  rintro e w2 ⟨rfl, ⟨n2, rfl⟩⟩
  go_wp2_with fail
  refine (take_ok (HM.out.drewN _) 1 (by decide) (by decide) (by rw [tkz]; decide) tA _ takeA).mono ?_
  rintro e w3 ⟨v, rfl, hR, hm3, hg3⟩
  have HM3 := Aside0.mk hm3
  have HG3 := Aside0.mk hg3
  obtain ⟨A, c, rfl, hc, hC⟩ := Kd.R_reads hR
  clear hm3 hg3 hR
  go_wp2_with fail
  refine (take_space HM3.out 1 (by decide) (by decide) (by rw [tkA]; decide)).mono ?_
  rintro e w4 ⟨rfl, hB4⟩
  have HB4 := Aside0.mk hB4
  obtain ⟨ad, hA, hx0, hx1⟩ := at_T44 (Kd.C_below hC hB4) 0 (by decide) (by simp)
  subst hA
  simp [rd_T44, Addr.add_zero'] at hx0 hx1
  have HM4 := Aside0.mk (HM3.out.below hB4)
  clear hB4 hC
  go_wp2_with (go_at_call 20; refine (free_is HM4.out).mono ?_; rw [tkA]; rintro e w5 ⟨rfl, hB5⟩; have HB5 := Aside0.mk hB5; clear hB5)
  go_ret
  have h1 : Below w.heap.size w w3 := pw_below_grown (pw_below_drewN HB.out _) _ HB.out.size HG3.out (fun k hk => by injection hk with hk; rw [← hk]; exact HG.out)
  exact ⟨rfl, below_step (below_step h1 HB4.out) HB5.out⟩
end Go.Proofs.Ytcfokcdmkhljoaa.Sp
