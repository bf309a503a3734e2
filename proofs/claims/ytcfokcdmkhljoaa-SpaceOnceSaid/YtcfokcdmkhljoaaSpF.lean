/- Layer 6, space: Claim and Give. -/
import Derived.Test.YtcfokcdmkhljoaaSpD
namespace Go.Proofs.Ytcfokcdmkhljoaa.Sp
open Go.RowKit Go.Proofs.YtcfokcdmkhljoaaW.PrintWords Go.Proofs.YtcfokcdmkhljoaaW.PrintLast Go.Proofs.YtcfokcdmkhljoaaW.PrintMore
open Go.Proofs.Ytcfokcdmkhljoaa.PSpaceRuns
set_option linter.unusedVariables false
set_option linter.unusedSimpArgs false

/-- one plot claimed (b) or given back -/
def stepT (b : Bool) (bad : Int) (p : Nat) (T : List Bool) (k : Int) : Except Int (List Bool) :=
  if 0 ≤ k then if k < p then if T.getD k.toNat false = b then .error bad else .ok (T.set k.toNat b) else .error 5 else .error 5
def midR (b : Bool) (bad : Int) (p : Nat) (y : Int) (next : List Bool → Except Int (List Bool)) (T : List Bool) : Except Int (List Bool) :=
  match stepT b bad p T y with | .error e => .error e | .ok T2 => next T2
def allR (b : Bool) (bad : Int) (p : Nat) : List S44 → List Bool → Except Int (List Bool)
  | [], T => .ok T
  | x :: r, T => midR b bad p x.f0 (midR b bad p x.f1 (allR b bad p r)) T
/-- what is left of a pair behind j of its plots -/
def restR (b : Bool) (bad : Int) (p : Nat) (x : S44) (r : List S44) : Nat → List Bool → Except Int (List Bool)
  | 0 => midR b bad p x.f0 (midR b bad p x.f1 (allR b bad p r))
  | 1 => midR b bad p x.f1 (allR b bad p r)
  | _ => allR b bad p r
def acells (T : List Bool) : Array Value := (T.map Value.bool).toArray
theorem acells_size {T : List Bool} (h : T.length = 511) : (acells T).size = 511 := by simp [acells, h]
theorem arr_ext {T : List Bool} {p : Nat} {m : Bool} (h : T.length = 511) : (mcells T p m).extract 0 511 = acells T := by
  apply Array.ext'; simp [mcells, acells, h]
theorem arr_ext' {T : List Bool} (h : T.length = 511) : (acells T).extract 0 511 = acells T := by
  apply Array.ext'; simp [acells]; rw [List.take_of_length_le (by simp [h])]
theorem acells_tail {T U : List Bool} (h : T.length = 511) (h' : U.length = 511) : acells T ++ (acells U).extract (acells T).size (acells U).size = acells T := by
  rw [acells_size h, acells_size h']
  apply Array.ext'
  simp [acells, h']
theorem mcells_back {T U : List Bool} {p : Nat} {m : Bool} (h : T.length = 511) (h' : U.length = 511) : acells T ++ (mcells U p m).extract (acells T).size (mcells U p m).size = mcells T p m := by
  rw [acells_size h, mcells_size h']
  apply Array.ext'
  simp [acells, mcells, h']
theorem acells_one {T : List Bool} : ∀ q ∈ (acells T).toList, q.oneCell' = true := by
  intro q hq
  simp only [acells, List.mem_map] at hq
  rcases hq with ⟨b, _, rfl⟩
  rfl
theorem zero61' : (Try.prog.info? 61).map (fun i => i.zero) = some (some (.agg (acells zT))) := by kernel_rfl

theorem claim_okI {w : World} {g : Nat} {T : List Bool} {p : Nat} (h : MapAt w g T p) (y : Int) (h0 : 0 ≤ y) (h1 : y < p) (hf : T.getD y.toNat false = false) :
    Calls Try.prog 33 #[.pointer (some ⟨g, 0, none⟩), .int .i64 y] w fun e w' => e = .returned (.int .i64 0) ∧ w.grownBy w' (some g) ∧ MapAt w' g (T.set y.toNat true) p := by
  obtain ⟨k, rfl⟩ := Int.eq_ofNat_of_zero_le h0
  have := h.few
  refine (claim_ok h k (by omega) hf).mono ?_
  rintro e w' ⟨rfl, rfl⟩
  exact ⟨rfl, grown_set (grown_refl w _) _ _, h.set_ k (by omega) true⟩
theorem claim_noI {w : World} {g : Nat} {T : List Bool} {p : Nat} (h : MapAt w g T p) (y : Int) (h0 : 0 ≤ y) (h1 : y < p) (hf : T.getD y.toNat false = true) :
    Calls Try.prog 33 #[.pointer (some ⟨g, 0, none⟩), .int .i64 y] w fun e w' => e = .returned (.int .i64 61) ∧ w = w' := by
  obtain ⟨k, rfl⟩ := Int.eq_ofNat_of_zero_le h0
  have := h.few
  refine (claim_no h k (by omega) hf).mono ?_
  rintro e w' ⟨rfl, rfl⟩
  exact ⟨rfl, rfl⟩
theorem drop_rd (l : List S44) (i : Nat) (h : i < l.length) : l.drop i = rd_T44 l i :: l.drop (i + 1) := by
  rw [List.drop_eq_getElem_cons h]
  simp [rd_T44, h]
theorem idx71_0 (a b : Int) (w : World) : (Instr.index 71 (.agg #[.int .i64 a, .int .i64 b]) (.int .i64 0)).run Try.prog w = .ok (.int .i64 a) w := by kernel_rfl
theorem idx71_1 (a b : Int) (w : World) : (Instr.index 71 (.agg #[.int .i64 a, .int .i64 b]) (.int .i64 1)).run Try.prog w = .ok (.int .i64 b) w := by kernel_rfl
attribute [local go_sem] idx71_0 idx71_1
set_option maxHeartbeats 4000000 in
theorem all_claim {w : World} {g : Nat} {T : List Bool} {p : Nat} (h : MapAt w g T p) (A : Option Addr) (c : Nat) (l : List S44) (hr : ∀ W_, w.grownBy W_ (some g) → Kd.C k44 W_ A l.length l) (hc : l.length ≤ c)
    (R : Except Int (List Bool)) (hR : allR true 61 p l T = R) :
    Calls Try.prog 31 #[.pointer (some ⟨g, 0, none⟩), .slice A l.length c, .func (.func 33) #[.pointer (some ⟨g, 0, none⟩)] #[]] w fun e w' =>
      (∃ k, R = .error k ∧ e = .returned (.int .i64 k) ∧ MapAt w' g T p ∧ w.grownBy w' (some g)) ∨
      (∃ T', R = .ok T' ∧ e = .returned (.int .i64 0) ∧ MapAt w' g T' p ∧ w.grownBy w' (some g)) := by
  have H := Aside0.mk h
  have HL := Aside0.mk hR
  have HR := Aside0.mk hr
  have hp := h.few
  have hgw := Aside0.mk h.lt
  clear h hr hR
  go_enter Try.func31, Try.ntmps31
  go_wp2_with (first | ((with_reducible refine gate_dst (N := 16) rfl ?_); refine load_agg_event rfl (N := 16) rfl rfl rfl H.out.blk Try.underlying61 rfl size61 (by rw [mcells_size H.out.len]; decide) ?_; rw [arr_ext H.out.len]) | ((with_reducible refine gate_dst (N := 7) rfl ?_); refine alloc_event rfl (N := 7) rfl rfl zero61' ?_; intro g2 hg2 w2 hb2 hB2 hs2; have HG := Aside0.mk hg2; have HB2 := Aside0.mk hB2; have HS2 := Aside0.mk hs2; clear hg2 hB2 hs2) | ((with_reducible refine gate_store (t := 61) (p := 7) (v := .tmp 16) rfl ?_); refine store_agg_event (cs := acells T) rfl rfl rfl rfl rfl hb2 (by rw [acells_size H.out.len]; exact size61) (by rw [acells_size H.out.len, acells_size zT_len]; exact Nat.le_refl _) acells_one ?_; intro w3 hb3 hg3 hs3; have HB3 := Aside0.mk hb3; have HG3 := Aside0.mk hg3; clear hb3 hg3 hs3))
  go_loopg [19] (l.length + 1) (fun kq v19 w' => ∃ (i : Nat) (T1 : List Bool), v19 = .int .i64 i ∧ Aside0 (kq + i = l.length + 1) ∧ Aside0 (0 < kq) ∧ Aside0 (allR true 61 p (l.drop i) T1 = R) ∧ Aside0 (MapAt w' g T1 p) ∧ Aside0 (w'.heap[g2]? = some (.cells (acells T) 61 (0, 0))) ∧ Aside0 (w.grownBy w' (some g)))
  case atStart =>
    have hb3 := HB3.out
    rw [acells_tail H.out.len zT_len] at hb3
    have hbw : Below w.heap.size w w3 := pw_below_grown HB2.out _ HB2.out.size HG3.out (fun k hk => by injection hk with hk; rw [← hk, HG.out]; exact Nat.le_refl _)
    exact ⟨0, T, rfl, ⟨by omega⟩, ⟨by omega⟩, HL, ⟨H.out.below hbw⟩, ⟨hb3⟩, ⟨grown_below hbw _⟩⟩
  case round =>
    obtain ⟨i, T1, rfl, HI, HZ, HA, HM, HW, HGr⟩ := hrel
    have hT := H.out.len
    have hg2 := HG.out
    clear H HL HB2 HS2 HB3 HG3 HG
    have hmx : l.length ≤ 9223372036854775807 := Kd.C_max (HR.out wr HGr.out)
    by_cases hil : i < l.length
    · have ha := HA.out
      rw [drop_rd l i hil] at ha
      simp only [allR] at ha
      obtain ⟨x, hx⟩ : ∃ x, x = rd_T44 l i := ⟨_, rfl⟩
      rw [← hx] at ha
      obtain ⟨ad, rfl, hx0, hx1⟩ := at_T44 (HR.out wr HGr.out) (i : Int) (by omega) (by omega)
      rw [← hx] at hx0 hx1
      simp only [Int.toNat_natCast] at hx0 hx1
      clear HA hx
      have HA := Aside0.mk ha
      clear ha
      have HGN := Aside0.mk hg2
      clear hg2
      obtain ⟨k1, rfl⟩ : ∃ k1, gk = k1 + 1 := ⟨gk - 1, by have := HZ.out; omega⟩
      have HT := Aside0.mk hT
      clear hT
      go_wp2_with fail
      go_loopg [28] 3 (fun kq v28 w' => ∃ (j : Nat) (T2 : List Bool), v28 = .int .i64 j ∧ Aside0 (kq + j = 3) ∧ Aside0 (0 < kq) ∧ Aside0 (restR true 61 p x (l.drop (i + 1)) j T2 = R) ∧ Aside0 (MapAt w' g T2 p) ∧ Aside0 (w'.heap[g2]? = some (.cells (acells T) 61 (0, 0))) ∧ Aside0 (w.grownBy w' (some g)))
      case atStart => exact ⟨0, T1, rfl, ⟨by omega⟩, ⟨by omega⟩, HA, ⟨HM.out.below (below_alloc (Below.refl _ _) _)⟩, ⟨blk_alloc HW.out _⟩, ⟨grown_new HGr.out (grown_below (below_alloc (Below.refl _ _) _) none) (fun b hb => by cases hb)⟩⟩
      case round =>
        clear HM HW HGr HA hx0 hx1
        obtain ⟨j, T2, rfl, HJ, HK, HB, HM, HW, HGr⟩ := hrel
        obtain ⟨k3, rfl⟩ : ∃ k3, gk = k3 + 1 := ⟨gk - 1, by have := HK.out; omega⟩
        have hj : j = 0 ∨ j = 1 ∨ j = 2 := by have := HJ.out; omega
        rcases hj with rfl | rfl | rfl
        ·
          have ha := HB.out
          have ha2 : midR true 61 p x.f0 (restR true 61 p x (l.drop (i + 1)) 1) T2 = R := ha
          unfold midR stepT at ha2
          clear ha HB
          have hpl := HM.out.plots
          obtain ⟨y, hy⟩ : ∃ y, y = x.f0 := ⟨_, rfl⟩
          have HY := Aside0.mk hy
          rw [← hy] at ha2
          clear hy
          by_cases hy0 : 0 ≤ y
          · rw [if_pos hy0] at ha2
            by_cases hy1 : y < (p : Int)
            · rw [if_pos hy1] at ha2
              cases hq : T2.getD y.toNat false with
              | true =>
                rw [hq] at ha2
                rw [if_pos rfl] at ha2
                replace ha2 := Aside0.mk ha2
                have HQ := Aside0.mk hq
                clear hq
                have h30 := HY.out
                subst h30
                go_wp2_with (first | (go_at_call 33; refine (claim_noI HM.out _ hy0 hy1 HQ.out).mono ?_; rintro e w' ⟨rfl, rfl⟩) | ((with_reducible refine gate_dst (N := 47) rfl ?_); refine load_agg_event rfl (N := 47) rfl rfl rfl HW.out Try.underlying61 rfl size61 (by rw [acells_size HT.out]; decide) ?_; rw [arr_ext' HT.out]) | ((with_reducible refine gate_store (t := 61) (p := 49) (v := .tmp 47) rfl ?_); refine store_agg_event (cs := acells T) rfl rfl rfl rfl rfl HM.out.blk (by rw [acells_size HT.out]; exact size61) (by rw [acells_size HT.out, mcells_size HM.out.len]; decide) acells_one ?_; intro w3 hb3 hg3 hs3; have HB3 := Aside0.mk hb3; have HG3 := Aside0.mk hg3; clear hb3 hg3 hs3))
                go_ret
                have hb3 := HB3.out
                rw [mcells_back HT.out HM.out.len] at hb3
                exact .inl ⟨_, ha2.out.symm, rfl, ⟨HT.out, hp, hb3⟩, grown_new HGr.out HG3.out (fun b hb => .inl (by injection hb with hb; exact hb.symm))⟩
              | false =>
                rw [hq] at ha2
                rw [if_neg (by decide)] at ha2
                replace ha2 := Aside0.mk ha2
                have HQ := Aside0.mk hq
                clear hq
                have h30 := HY.out
                subst h30
                go_wp2_with (first | (go_at_call 33; refine (claim_okI HM.out _ hy0 hy1 HQ.out).mono ?_; rintro e w' ⟨rfl, hg, hm⟩; have HG5 := Aside0.mk (grown_new HGr.out hg (fun b hb => .inl (by injection hb with hb; exact hb.symm))); have HM5 := Aside0.mk hm; have HW5 := Aside0.mk (blk_grown HW.out hg (by have h1 := HGN.out; have h2 := hgw.out; intro e; injection e with e; omega)); clear hg hm))
                go_roundg k3
                case measure => omega
                case rel => exact ⟨1, _, by simp, ⟨by have := HJ.out; omega⟩, ⟨by have := HJ.out; omega⟩, ha2, HM5, HW5, HG5⟩
            · rw [if_neg hy1] at ha2
              replace ha2 := Aside0.mk ha2
              have h30 := HY.out
              subst h30
              go_wp2_with (first | ((with_reducible refine gate_dst (N := 47) rfl ?_); refine load_agg_event rfl (N := 47) rfl rfl rfl HW.out Try.underlying61 rfl size61 (by rw [acells_size HT.out]; decide) ?_; rw [arr_ext' HT.out]) | ((with_reducible refine gate_store (t := 61) (p := 49) (v := .tmp 47) rfl ?_); refine store_agg_event (cs := acells T) rfl rfl rfl rfl rfl HM.out.blk (by rw [acells_size HT.out]; exact size61) (by rw [acells_size HT.out, mcells_size HM.out.len]; decide) acells_one ?_; intro w3 hb3 hg3 hs3; have HB3 := Aside0.mk hb3; have HG3 := Aside0.mk hg3; clear hb3 hg3 hs3))
              go_ret
              have hb3 := HB3.out
              rw [mcells_back HT.out HM.out.len] at hb3
              exact .inl ⟨_, ha2.out.symm, rfl, ⟨HT.out, hp, hb3⟩, grown_new HGr.out HG3.out (fun b hb => .inl (by injection hb with hb; exact hb.symm))⟩
          · rw [if_neg hy0] at ha2
            replace ha2 := Aside0.mk ha2
            have h30 := HY.out
            subst h30
            go_wp2_with (first | ((with_reducible refine gate_dst (N := 47) rfl ?_); refine load_agg_event rfl (N := 47) rfl rfl rfl HW.out Try.underlying61 rfl size61 (by rw [acells_size HT.out]; decide) ?_; rw [arr_ext' HT.out]) | ((with_reducible refine gate_store (t := 61) (p := 49) (v := .tmp 47) rfl ?_); refine store_agg_event (cs := acells T) rfl rfl rfl rfl rfl HM.out.blk (by rw [acells_size HT.out]; exact size61) (by rw [acells_size HT.out, mcells_size HM.out.len]; decide) acells_one ?_; intro w3 hb3 hg3 hs3; have HB3 := Aside0.mk hb3; have HG3 := Aside0.mk hg3; clear hb3 hg3 hs3))
            go_ret
            have hb3 := HB3.out
            rw [mcells_back HT.out HM.out.len] at hb3
            exact .inl ⟨_, ha2.out.symm, rfl, ⟨HT.out, hp, hb3⟩, grown_new HGr.out HG3.out (fun b hb => .inl (by injection hb with hb; exact hb.symm))⟩
        ·
          have ha := HB.out
          have ha2 : midR true 61 p x.f1 (restR true 61 p x (l.drop (i + 1)) 2) T2 = R := ha
          unfold midR stepT at ha2
          clear ha HB
          have hpl := HM.out.plots
          obtain ⟨y, hy⟩ : ∃ y, y = x.f1 := ⟨_, rfl⟩
          have HY := Aside0.mk hy
          rw [← hy] at ha2
          clear hy
          by_cases hy0 : 0 ≤ y
          · rw [if_pos hy0] at ha2
            by_cases hy1 : y < (p : Int)
            · rw [if_pos hy1] at ha2
              cases hq : T2.getD y.toNat false with
              | true =>
                rw [hq] at ha2
                rw [if_pos rfl] at ha2
                replace ha2 := Aside0.mk ha2
                have HQ := Aside0.mk hq
                clear hq
                have h30 := HY.out
                subst h30
                go_wp2_with (first | (go_at_call 33; refine (claim_noI HM.out _ hy0 hy1 HQ.out).mono ?_; rintro e w' ⟨rfl, rfl⟩) | ((with_reducible refine gate_dst (N := 47) rfl ?_); refine load_agg_event rfl (N := 47) rfl rfl rfl HW.out Try.underlying61 rfl size61 (by rw [acells_size HT.out]; decide) ?_; rw [arr_ext' HT.out]) | ((with_reducible refine gate_store (t := 61) (p := 49) (v := .tmp 47) rfl ?_); refine store_agg_event (cs := acells T) rfl rfl rfl rfl rfl HM.out.blk (by rw [acells_size HT.out]; exact size61) (by rw [acells_size HT.out, mcells_size HM.out.len]; decide) acells_one ?_; intro w3 hb3 hg3 hs3; have HB3 := Aside0.mk hb3; have HG3 := Aside0.mk hg3; clear hb3 hg3 hs3))
                go_ret
                have hb3 := HB3.out
                rw [mcells_back HT.out HM.out.len] at hb3
                exact .inl ⟨_, ha2.out.symm, rfl, ⟨HT.out, hp, hb3⟩, grown_new HGr.out HG3.out (fun b hb => .inl (by injection hb with hb; exact hb.symm))⟩
              | false =>
                rw [hq] at ha2
                rw [if_neg (by decide)] at ha2
                replace ha2 := Aside0.mk ha2
                have HQ := Aside0.mk hq
                clear hq
                have h30 := HY.out
                subst h30
                go_wp2_with (first | (go_at_call 33; refine (claim_okI HM.out _ hy0 hy1 HQ.out).mono ?_; rintro e w' ⟨rfl, hg, hm⟩; have HG5 := Aside0.mk (grown_new HGr.out hg (fun b hb => .inl (by injection hb with hb; exact hb.symm))); have HM5 := Aside0.mk hm; have HW5 := Aside0.mk (blk_grown HW.out hg (by have h1 := HGN.out; have h2 := hgw.out; intro e; injection e with e; omega)); clear hg hm))
                go_roundg k3
                case measure => omega
                case rel => exact ⟨2, _, by simp, ⟨by have := HJ.out; omega⟩, ⟨by have := HJ.out; omega⟩, ha2, HM5, HW5, HG5⟩
            · rw [if_neg hy1] at ha2
              replace ha2 := Aside0.mk ha2
              have h30 := HY.out
              subst h30
              go_wp2_with (first | ((with_reducible refine gate_dst (N := 47) rfl ?_); refine load_agg_event rfl (N := 47) rfl rfl rfl HW.out Try.underlying61 rfl size61 (by rw [acells_size HT.out]; decide) ?_; rw [arr_ext' HT.out]) | ((with_reducible refine gate_store (t := 61) (p := 49) (v := .tmp 47) rfl ?_); refine store_agg_event (cs := acells T) rfl rfl rfl rfl rfl HM.out.blk (by rw [acells_size HT.out]; exact size61) (by rw [acells_size HT.out, mcells_size HM.out.len]; decide) acells_one ?_; intro w3 hb3 hg3 hs3; have HB3 := Aside0.mk hb3; have HG3 := Aside0.mk hg3; clear hb3 hg3 hs3))
              go_ret
              have hb3 := HB3.out
              rw [mcells_back HT.out HM.out.len] at hb3
              exact .inl ⟨_, ha2.out.symm, rfl, ⟨HT.out, hp, hb3⟩, grown_new HGr.out HG3.out (fun b hb => .inl (by injection hb with hb; exact hb.symm))⟩
          · rw [if_neg hy0] at ha2
            replace ha2 := Aside0.mk ha2
            have h30 := HY.out
            subst h30
            go_wp2_with (first | ((with_reducible refine gate_dst (N := 47) rfl ?_); refine load_agg_event rfl (N := 47) rfl rfl rfl HW.out Try.underlying61 rfl size61 (by rw [acells_size HT.out]; decide) ?_; rw [arr_ext' HT.out]) | ((with_reducible refine gate_store (t := 61) (p := 49) (v := .tmp 47) rfl ?_); refine store_agg_event (cs := acells T) rfl rfl rfl rfl rfl HM.out.blk (by rw [acells_size HT.out]; exact size61) (by rw [acells_size HT.out, mcells_size HM.out.len]; decide) acells_one ?_; intro w3 hb3 hg3 hs3; have HB3 := Aside0.mk hb3; have HG3 := Aside0.mk hg3; clear hb3 hg3 hs3))
            go_ret
            have hb3 := HB3.out
            rw [mcells_back HT.out HM.out.len] at hb3
            exact .inl ⟨_, ha2.out.symm, rfl, ⟨HT.out, hp, hb3⟩, grown_new HGr.out HG3.out (fun b hb => .inl (by injection hb with hb; exact hb.symm))⟩
        · have ha := HB
          clear HB
          go_wp2
          go_roundg k1
          case measure => omega
          case rel => exact ⟨i + 1, T2, by simp, ⟨by have := HI.out; omega⟩, ⟨by have := HI.out; omega⟩, ha, HM, HW, HGr⟩
    · have e : i = l.length := by have := HI.out; have := HZ.out; omega
      have ha := HA.out
      rw [e, List.drop_length] at ha
      clear HA
      subst e
      go_wp2
      go_ret
      exact .inr ⟨T1, ha.symm, rfl, HM.out, HGr.out⟩
theorem free_okI {w : World} {g : Nat} {T : List Bool} {p : Nat} (h : MapAt w g T p) (y : Int) (h0 : 0 ≤ y) (h1 : y < p) (hf : T.getD y.toNat false = true) :
    Calls Try.prog 32 #[.pointer (some ⟨g, 0, none⟩), .int .i64 y] w fun e w' => e = .returned (.int .i64 0) ∧ w.grownBy w' (some g) ∧ MapAt w' g (T.set y.toNat false) p := by
  obtain ⟨k, rfl⟩ := Int.eq_ofNat_of_zero_le h0
  have := h.few
  refine (free_ok h k (by omega) hf).mono ?_
  rintro e w' ⟨rfl, rfl⟩
  exact ⟨rfl, grown_set (grown_refl w _) _ _, h.set_ k (by omega) false⟩
theorem free_noI {w : World} {g : Nat} {T : List Bool} {p : Nat} (h : MapAt w g T p) (y : Int) (h0 : 0 ≤ y) (h1 : y < p) (hf : T.getD y.toNat false = false) :
    Calls Try.prog 32 #[.pointer (some ⟨g, 0, none⟩), .int .i64 y] w fun e w' => e = .returned (.int .i64 62) ∧ w = w' := by
  obtain ⟨k, rfl⟩ := Int.eq_ofNat_of_zero_le h0
  have := h.few
  refine (free_no h k (by omega) hf).mono ?_
  rintro e w' ⟨rfl, rfl⟩
  exact ⟨rfl, rfl⟩
set_option maxHeartbeats 4000000 in
theorem all_free {w : World} {g : Nat} {T : List Bool} {p : Nat} (h : MapAt w g T p) (A : Option Addr) (c : Nat) (l : List S44) (hr : ∀ W_, w.grownBy W_ (some g) → Kd.C k44 W_ A l.length l) (hc : l.length ≤ c)
    (R : Except Int (List Bool)) (hR : allR false 62 p l T = R) :
    Calls Try.prog 31 #[.pointer (some ⟨g, 0, none⟩), .slice A l.length c, .func (.func 32) #[.pointer (some ⟨g, 0, none⟩)] #[]] w fun e w' =>
      (∃ k, R = .error k ∧ e = .returned (.int .i64 k) ∧ MapAt w' g T p ∧ w.grownBy w' (some g)) ∨
      (∃ T', R = .ok T' ∧ e = .returned (.int .i64 0) ∧ MapAt w' g T' p ∧ w.grownBy w' (some g)) := by
  have H := Aside0.mk h
  have HL := Aside0.mk hR
  have HR := Aside0.mk hr
  have hp := h.few
  have hgw := Aside0.mk h.lt
  clear h hr hR
  go_enter Try.func31, Try.ntmps31
  go_wp2_with (first | ((with_reducible refine gate_dst (N := 16) rfl ?_); refine load_agg_event rfl (N := 16) rfl rfl rfl H.out.blk Try.underlying61 rfl size61 (by rw [mcells_size H.out.len]; decide) ?_; rw [arr_ext H.out.len]) | ((with_reducible refine gate_dst (N := 7) rfl ?_); refine alloc_event rfl (N := 7) rfl rfl zero61' ?_; intro g2 hg2 w2 hb2 hB2 hs2; have HG := Aside0.mk hg2; have HB2 := Aside0.mk hB2; have HS2 := Aside0.mk hs2; clear hg2 hB2 hs2) | ((with_reducible refine gate_store (t := 61) (p := 7) (v := .tmp 16) rfl ?_); refine store_agg_event (cs := acells T) rfl rfl rfl rfl rfl hb2 (by rw [acells_size H.out.len]; exact size61) (by rw [acells_size H.out.len, acells_size zT_len]; exact Nat.le_refl _) acells_one ?_; intro w3 hb3 hg3 hs3; have HB3 := Aside0.mk hb3; have HG3 := Aside0.mk hg3; clear hb3 hg3 hs3))
  go_loopg [19] (l.length + 1) (fun kq v19 w' => ∃ (i : Nat) (T1 : List Bool), v19 = .int .i64 i ∧ Aside0 (kq + i = l.length + 1) ∧ Aside0 (0 < kq) ∧ Aside0 (allR false 62 p (l.drop i) T1 = R) ∧ Aside0 (MapAt w' g T1 p) ∧ Aside0 (w'.heap[g2]? = some (.cells (acells T) 61 (0, 0))) ∧ Aside0 (w.grownBy w' (some g)))
  case atStart =>
    have hb3 := HB3.out
    rw [acells_tail H.out.len zT_len] at hb3
    have hbw : Below w.heap.size w w3 := pw_below_grown HB2.out _ HB2.out.size HG3.out (fun k hk => by injection hk with hk; rw [← hk, HG.out]; exact Nat.le_refl _)
    exact ⟨0, T, rfl, ⟨by omega⟩, ⟨by omega⟩, HL, ⟨H.out.below hbw⟩, ⟨hb3⟩, ⟨grown_below hbw _⟩⟩
  case round =>
    obtain ⟨i, T1, rfl, HI, HZ, HA, HM, HW, HGr⟩ := hrel
    have hT := H.out.len
    have hg2 := HG.out
    clear H HL HB2 HS2 HB3 HG3 HG
    have hmx : l.length ≤ 9223372036854775807 := Kd.C_max (HR.out wr HGr.out)
    by_cases hil : i < l.length
    · have ha := HA.out
      rw [drop_rd l i hil] at ha
      simp only [allR] at ha
      obtain ⟨x, hx⟩ : ∃ x, x = rd_T44 l i := ⟨_, rfl⟩
      rw [← hx] at ha
      obtain ⟨ad, rfl, hx0, hx1⟩ := at_T44 (HR.out wr HGr.out) (i : Int) (by omega) (by omega)
      rw [← hx] at hx0 hx1
      simp only [Int.toNat_natCast] at hx0 hx1
      clear HA hx
      have HA := Aside0.mk ha
      clear ha
      have HGN := Aside0.mk hg2
      clear hg2
      obtain ⟨k1, rfl⟩ : ∃ k1, gk = k1 + 1 := ⟨gk - 1, by have := HZ.out; omega⟩
      have HT := Aside0.mk hT
      clear hT
      go_wp2_with fail
      go_loopg [28] 3 (fun kq v28 w' => ∃ (j : Nat) (T2 : List Bool), v28 = .int .i64 j ∧ Aside0 (kq + j = 3) ∧ Aside0 (0 < kq) ∧ Aside0 (restR false 62 p x (l.drop (i + 1)) j T2 = R) ∧ Aside0 (MapAt w' g T2 p) ∧ Aside0 (w'.heap[g2]? = some (.cells (acells T) 61 (0, 0))) ∧ Aside0 (w.grownBy w' (some g)))
      case atStart => exact ⟨0, T1, rfl, ⟨by omega⟩, ⟨by omega⟩, HA, ⟨HM.out.below (below_alloc (Below.refl _ _) _)⟩, ⟨blk_alloc HW.out _⟩, ⟨grown_new HGr.out (grown_below (below_alloc (Below.refl _ _) _) none) (fun b hb => by cases hb)⟩⟩
      case round =>
        clear HM HW HGr HA hx0 hx1
        obtain ⟨j, T2, rfl, HJ, HK, HB, HM, HW, HGr⟩ := hrel
        obtain ⟨k3, rfl⟩ : ∃ k3, gk = k3 + 1 := ⟨gk - 1, by have := HK.out; omega⟩
        have hj : j = 0 ∨ j = 1 ∨ j = 2 := by have := HJ.out; omega
        rcases hj with rfl | rfl | rfl
        ·
          have ha := HB.out
          have ha2 : midR false 62 p x.f0 (restR false 62 p x (l.drop (i + 1)) 1) T2 = R := ha
          unfold midR stepT at ha2
          clear ha HB
          have hpl := HM.out.plots
          obtain ⟨y, hy⟩ : ∃ y, y = x.f0 := ⟨_, rfl⟩
          have HY := Aside0.mk hy
          rw [← hy] at ha2
          clear hy
          by_cases hy0 : 0 ≤ y
          · rw [if_pos hy0] at ha2
            by_cases hy1 : y < (p : Int)
            · rw [if_pos hy1] at ha2
              cases hq : T2.getD y.toNat false with
              | true =>
                rw [hq] at ha2
                rw [if_neg (by decide)] at ha2
                replace ha2 := Aside0.mk ha2
                have HQ := Aside0.mk hq
                clear hq
                have h30 := HY.out
                subst h30
                go_wp2_with (first | (go_at_call 32; refine (free_okI HM.out _ hy0 hy1 HQ.out).mono ?_; rintro e w' ⟨rfl, hg, hm⟩; have HG5 := Aside0.mk (grown_new HGr.out hg (fun b hb => .inl (by injection hb with hb; exact hb.symm))); have HM5 := Aside0.mk hm; have HW5 := Aside0.mk (blk_grown HW.out hg (by have h1 := HGN.out; have h2 := hgw.out; intro e; injection e with e; omega)); clear hg hm))
                go_roundg k3
                case measure => omega
                case rel => exact ⟨1, _, by simp, ⟨by have := HJ.out; omega⟩, ⟨by have := HJ.out; omega⟩, ha2, HM5, HW5, HG5⟩
              | false =>
                rw [hq] at ha2
                rw [if_pos rfl] at ha2
                replace ha2 := Aside0.mk ha2
                have HQ := Aside0.mk hq
                clear hq
                have h30 := HY.out
                subst h30
                go_wp2_with (first | (go_at_call 32; refine (free_noI HM.out _ hy0 hy1 HQ.out).mono ?_; rintro e w' ⟨rfl, rfl⟩) | ((with_reducible refine gate_dst (N := 47) rfl ?_); refine load_agg_event rfl (N := 47) rfl rfl rfl HW.out Try.underlying61 rfl size61 (by rw [acells_size HT.out]; decide) ?_; rw [arr_ext' HT.out]) | ((with_reducible refine gate_store (t := 61) (p := 49) (v := .tmp 47) rfl ?_); refine store_agg_event (cs := acells T) rfl rfl rfl rfl rfl HM.out.blk (by rw [acells_size HT.out]; exact size61) (by rw [acells_size HT.out, mcells_size HM.out.len]; decide) acells_one ?_; intro w3 hb3 hg3 hs3; have HB3 := Aside0.mk hb3; have HG3 := Aside0.mk hg3; clear hb3 hg3 hs3))
                go_ret
                have hb3 := HB3.out
                rw [mcells_back HT.out HM.out.len] at hb3
                exact .inl ⟨_, ha2.out.symm, rfl, ⟨HT.out, hp, hb3⟩, grown_new HGr.out HG3.out (fun b hb => .inl (by injection hb with hb; exact hb.symm))⟩
            · rw [if_neg hy1] at ha2
              replace ha2 := Aside0.mk ha2
              have h30 := HY.out
              subst h30
              go_wp2_with (first | ((with_reducible refine gate_dst (N := 47) rfl ?_); refine load_agg_event rfl (N := 47) rfl rfl rfl HW.out Try.underlying61 rfl size61 (by rw [acells_size HT.out]; decide) ?_; rw [arr_ext' HT.out]) | ((with_reducible refine gate_store (t := 61) (p := 49) (v := .tmp 47) rfl ?_); refine store_agg_event (cs := acells T) rfl rfl rfl rfl rfl HM.out.blk (by rw [acells_size HT.out]; exact size61) (by rw [acells_size HT.out, mcells_size HM.out.len]; decide) acells_one ?_; intro w3 hb3 hg3 hs3; have HB3 := Aside0.mk hb3; have HG3 := Aside0.mk hg3; clear hb3 hg3 hs3))
              go_ret
              have hb3 := HB3.out
              rw [mcells_back HT.out HM.out.len] at hb3
              exact .inl ⟨_, ha2.out.symm, rfl, ⟨HT.out, hp, hb3⟩, grown_new HGr.out HG3.out (fun b hb => .inl (by injection hb with hb; exact hb.symm))⟩
          · rw [if_neg hy0] at ha2
            replace ha2 := Aside0.mk ha2
            have h30 := HY.out
            subst h30
            go_wp2_with (first | ((with_reducible refine gate_dst (N := 47) rfl ?_); refine load_agg_event rfl (N := 47) rfl rfl rfl HW.out Try.underlying61 rfl size61 (by rw [acells_size HT.out]; decide) ?_; rw [arr_ext' HT.out]) | ((with_reducible refine gate_store (t := 61) (p := 49) (v := .tmp 47) rfl ?_); refine store_agg_event (cs := acells T) rfl rfl rfl rfl rfl HM.out.blk (by rw [acells_size HT.out]; exact size61) (by rw [acells_size HT.out, mcells_size HM.out.len]; decide) acells_one ?_; intro w3 hb3 hg3 hs3; have HB3 := Aside0.mk hb3; have HG3 := Aside0.mk hg3; clear hb3 hg3 hs3))
            go_ret
            have hb3 := HB3.out
            rw [mcells_back HT.out HM.out.len] at hb3
            exact .inl ⟨_, ha2.out.symm, rfl, ⟨HT.out, hp, hb3⟩, grown_new HGr.out HG3.out (fun b hb => .inl (by injection hb with hb; exact hb.symm))⟩
        ·
          have ha := HB.out
          have ha2 : midR false 62 p x.f1 (restR false 62 p x (l.drop (i + 1)) 2) T2 = R := ha
          unfold midR stepT at ha2
          clear ha HB
          have hpl := HM.out.plots
          obtain ⟨y, hy⟩ : ∃ y, y = x.f1 := ⟨_, rfl⟩
          have HY := Aside0.mk hy
          rw [← hy] at ha2
          clear hy
          by_cases hy0 : 0 ≤ y
          · rw [if_pos hy0] at ha2
            by_cases hy1 : y < (p : Int)
            · rw [if_pos hy1] at ha2
              cases hq : T2.getD y.toNat false with
              | true =>
                rw [hq] at ha2
                rw [if_neg (by decide)] at ha2
                replace ha2 := Aside0.mk ha2
                have HQ := Aside0.mk hq
                clear hq
                have h30 := HY.out
                subst h30
                go_wp2_with (first | (go_at_call 32; refine (free_okI HM.out _ hy0 hy1 HQ.out).mono ?_; rintro e w' ⟨rfl, hg, hm⟩; have HG5 := Aside0.mk (grown_new HGr.out hg (fun b hb => .inl (by injection hb with hb; exact hb.symm))); have HM5 := Aside0.mk hm; have HW5 := Aside0.mk (blk_grown HW.out hg (by have h1 := HGN.out; have h2 := hgw.out; intro e; injection e with e; omega)); clear hg hm))
                go_roundg k3
                case measure => omega
                case rel => exact ⟨2, _, by simp, ⟨by have := HJ.out; omega⟩, ⟨by have := HJ.out; omega⟩, ha2, HM5, HW5, HG5⟩
              | false =>
                rw [hq] at ha2
                rw [if_pos rfl] at ha2
                replace ha2 := Aside0.mk ha2
                have HQ := Aside0.mk hq
                clear hq
                have h30 := HY.out
                subst h30
                go_wp2_with (first | (go_at_call 32; refine (free_noI HM.out _ hy0 hy1 HQ.out).mono ?_; rintro e w' ⟨rfl, rfl⟩) | ((with_reducible refine gate_dst (N := 47) rfl ?_); refine load_agg_event rfl (N := 47) rfl rfl rfl HW.out Try.underlying61 rfl size61 (by rw [acells_size HT.out]; decide) ?_; rw [arr_ext' HT.out]) | ((with_reducible refine gate_store (t := 61) (p := 49) (v := .tmp 47) rfl ?_); refine store_agg_event (cs := acells T) rfl rfl rfl rfl rfl HM.out.blk (by rw [acells_size HT.out]; exact size61) (by rw [acells_size HT.out, mcells_size HM.out.len]; decide) acells_one ?_; intro w3 hb3 hg3 hs3; have HB3 := Aside0.mk hb3; have HG3 := Aside0.mk hg3; clear hb3 hg3 hs3))
                go_ret
                have hb3 := HB3.out
                rw [mcells_back HT.out HM.out.len] at hb3
                exact .inl ⟨_, ha2.out.symm, rfl, ⟨HT.out, hp, hb3⟩, grown_new HGr.out HG3.out (fun b hb => .inl (by injection hb with hb; exact hb.symm))⟩
            · rw [if_neg hy1] at ha2
              replace ha2 := Aside0.mk ha2
              have h30 := HY.out
              subst h30
              go_wp2_with (first | ((with_reducible refine gate_dst (N := 47) rfl ?_); refine load_agg_event rfl (N := 47) rfl rfl rfl HW.out Try.underlying61 rfl size61 (by rw [acells_size HT.out]; decide) ?_; rw [arr_ext' HT.out]) | ((with_reducible refine gate_store (t := 61) (p := 49) (v := .tmp 47) rfl ?_); refine store_agg_event (cs := acells T) rfl rfl rfl rfl rfl HM.out.blk (by rw [acells_size HT.out]; exact size61) (by rw [acells_size HT.out, mcells_size HM.out.len]; decide) acells_one ?_; intro w3 hb3 hg3 hs3; have HB3 := Aside0.mk hb3; have HG3 := Aside0.mk hg3; clear hb3 hg3 hs3))
              go_ret
              have hb3 := HB3.out
              rw [mcells_back HT.out HM.out.len] at hb3
              exact .inl ⟨_, ha2.out.symm, rfl, ⟨HT.out, hp, hb3⟩, grown_new HGr.out HG3.out (fun b hb => .inl (by injection hb with hb; exact hb.symm))⟩
          · rw [if_neg hy0] at ha2
            replace ha2 := Aside0.mk ha2
            have h30 := HY.out
            subst h30
            go_wp2_with (first | ((with_reducible refine gate_dst (N := 47) rfl ?_); refine load_agg_event rfl (N := 47) rfl rfl rfl HW.out Try.underlying61 rfl size61 (by rw [acells_size HT.out]; decide) ?_; rw [arr_ext' HT.out]) | ((with_reducible refine gate_store (t := 61) (p := 49) (v := .tmp 47) rfl ?_); refine store_agg_event (cs := acells T) rfl rfl rfl rfl rfl HM.out.blk (by rw [acells_size HT.out]; exact size61) (by rw [acells_size HT.out, mcells_size HM.out.len]; decide) acells_one ?_; intro w3 hb3 hg3 hs3; have HB3 := Aside0.mk hb3; have HG3 := Aside0.mk hg3; clear hb3 hg3 hs3))
            go_ret
            have hb3 := HB3.out
            rw [mcells_back HT.out HM.out.len] at hb3
            exact .inl ⟨_, ha2.out.symm, rfl, ⟨HT.out, hp, hb3⟩, grown_new HGr.out HG3.out (fun b hb => .inl (by injection hb with hb; exact hb.symm))⟩
        · have ha := HB
          clear HB
          go_wp2
          go_roundg k1
          case measure => omega
          case rel => exact ⟨i + 1, T2, by simp, ⟨by have := HI.out; omega⟩, ⟨by have := HI.out; omega⟩, ha, HM, HW, HGr⟩
    · have e : i = l.length := by have := HI.out; have := HZ.out; omega
      have ha := HA.out
      rw [e, List.drop_length] at ha
      clear HA
      subst e
      go_wp2
      go_ret
      exact .inr ⟨T1, ha.symm, rfl, HM.out, HGr.out⟩
end Go.Proofs.Ytcfokcdmkhljoaa.Sp
