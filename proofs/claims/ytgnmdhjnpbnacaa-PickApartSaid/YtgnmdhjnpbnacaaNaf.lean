/- The claim by itself: plain laws and walks. -/
import Derived.Test.YtgnmdhjnpbnacaaNaa
import Derived.Test.YtgnmdhjnpbnacaaNab
import Derived.Test.YtgnmdhjnpbnacaaNac
import Derived.Test.YtgnmdhjnpbnacaaNad
import Derived.Test.YtgnmdhjnpbnacaaNae
set_option linter.unusedVariables false
set_option linter.unusedSimpArgs false
section
set_option linter.unusedVariables false
set_option linter.unusedSimpArgs false
namespace Go.Proofs.Ytgnmdhjnpbnacaa.PB
open Go.RowKit Go.Proofs.YtgnmdhjnpbnacaaW.PrintWords Go.Proofs.YtgnmdhjnpbnacaaW.PrintLast Go.Proofs.YtgnmdhjnpbnacaaW.PrintMore
theorem leS_nn {a b : ByteArray} (h : leS a b = false) : Op.bytesLess a.toList b.toList = false := by
  rw [Bool.eq_false_iff]; intro h1; rw [leS_or.2 (.inl h1)] at h; cases h
theorem leS_n3 {a b : ByteArray} (h : leS a b = false) : (a.toList == b.toList) = false := by
  rw [beq_eq_false_iff_ne]; intro h1; rw [leS_or.2 (.inr h1)] at h; cases h
theorem leS_n2 {a b : ByteArray} (h : leS a b = false) : ¬ a.toList = b.toList := by
  intro h1; rw [leS_or.2 (.inr h1)] at h; cases h
set_option maxHeartbeats 16000000 in
set_option maxRecDepth 100000 in
theorem apart_c (n s : Int) (Al : Option Addr) (cl : Nat) (lg : List S57) (A : Option Addr) (c : Nat) (l : List S47) (w : World) (hl : l.length ≤ 9223372036854775806) (hlg : Kd.C k57 w Al lg.length lg) (hcl : lg.length ≤ cl) (hF : Kd.F k47 w (fun k => k < w.heap.size) A l.length l) (hc : l.length ≤ c) (hq : ∀ x ∈ l, okT x) :
    Calls Try.prog 4 #[.agg #[.int .i64 n, .int .i64 s, .slice Al lg.length cl, .slice A l.length c]] w fun e w' => e = .returned (.bool true) ∧ Below w.heap.size w w' := by
  have HBA := Aside0.mk (below_alloc (Below.refl w.heap.size w) (.cells #[.int .i64 n, .int .i64 s, .slice Al lg.length cl, .slice A l.length c] 25))
  have HG := Aside0.mk (blk_new w (.cells #[.int .i64 n, .int .i64 s, .slice Al lg.length cl, .slice A l.length c] 25))
  have HF := Aside0.mk (Kd.F_alloc hF (.cells #[.int .i64 n, .int .i64 s, .slice Al lg.length cl, .slice A l.length c] 25))
  have HLG := Aside0.mk (Kd.C_below hlg HBA.out)
  have HQ := Aside0.mk (few_ok l hq)
  obtain ⟨l2, hl2⟩ : ∃ l2, fewL l = l2 := ⟨_, rfl⟩
  have hlen := few_len l
  rw [hl2] at hlen HQ
  have hlen2 := Aside0.mk (show l2.length ≤ 200 from by omega)
  have HL2 := Aside0.mk hl2
  clear hl2 hF hlg hq hlen
  go_enter Try.func4, Try.ntmps4
  go_wp2_with (first | (go_at_call 6; with_reducible refine (few_c (fun k => k < w.heap.size) n s Al cl lg A c l _ hl HLG.out hcl HF.out hc).mono ?_; (rw [HL2.out]); rintro e w2 ⟨A2, c2, A3, c3, rfl, hF2, hc3, hB2⟩; have HF2 := Aside0.mk hF2; have HC3 := Aside0.mk hc3; have HB2 := Aside0.mk (below_step HBA.out hB2); have HG2 := Aside0.mk (blk_below HG.out hB2); clear hF2 hc3 hB2) | ((with_reducible refine gate_store (t := 25) (p := 1) (v := .tmp 14) rfl ?_); refine store4_event (cs := #[.int .i64 0, .int .i64 0, .slice A2 0 c2, .slice A3 l2.length c3]) rfl rfl rfl rfl rfl HG2.out size25 rfl (by intro q hq; simp at hq; rcases hq with rfl | rfl | rfl | rfl <;> rfl) ?_; intro w9 hb9 hg9 hs9; have HVP := Aside0.mk (VP.set2 (VP.mk (grownB HB2.out hg9 (Nat.le_refl _)) hb9 (Kd.F_mono (Kd.F_grown HF2.out hg9 (fun k hk e => alloc_ne w _ k hk (Option.some.inj e))) (fun k hk e => alloc_ne w _ k hk e))) (.int .i64 1048576) (.int .i64 1099511627776)); have g0 := blk_cell hb9 0; have g1 := blk_cell hb9 1; have g2 := blk_cell hb9 2; have g3 := blk_cell hb9 3; have f0 := blk_frozen hb9 0; have f1 := blk_frozen hb9 1; clear hb9 hg9 hs9) | (go_at_call 7; refine (awake_c _).mono ?_; rintro e w7 ⟨rfl, hB7⟩; have HV7 := Aside0.mk (VP.to HVP.out hB7); have c70 := blk_cell HV7.out.bv 0; have c71 := blk_cell HV7.out.bv 1; have c72 := blk_cell HV7.out.bv 2; have c73 := blk_cell HV7.out.bv 3; clear hB7))
  clear HG HF HLG HBA HF2 HB2 HG2 g0 g1 g2 g3 f0 f1 HVP
  with_reducible refine (is_b A2 c2 A3 c3 l2 _ HV7.out.fT HC3.out hlen2.out).mono ?_
  rintro e w8 ⟨b, rfl, hVOK, hB8⟩
  have HVOK := Aside0.mk hVOK
  have HV8 := Aside0.mk (VP.to HV7.out hB8)
  clear hVOK hB8 c70 c71 c72 c73
  have c80 := blk_cell HV8.out.bv 0
  have c81 := blk_cell HV8.out.bv 1
  have c82 := blk_cell HV8.out.bv 2
  have c83 := blk_cell HV8.out.bv 3
  cases b with
  | false =>
    go_wp2_with (first | (go_at_call 7; refine (awake_c _).mono ?_; rintro e w9 ⟨rfl, hB9⟩; have HV9 := Aside0.mk (VP.to HV8.out hB9); clear hB9))
    go_ret
    exact ⟨rfl, HV9.out.below⟩
  | true =>
    replace HVOK := Aside0.mk (HVOK.out rfl)
    rcases hfull : fullTo l2 3 with _ | ⟨nn, rest⟩
    · have HFL := Aside0.mk hfull
      clear hfull
      go_wp2_with (first | (go_at_call 10; with_reducible refine (pick_none 1048576 1099511627776 (.slice A2 0 c2) A3 c3 l2 _ HQ.out HV8.out.fT HC3.out hlen2.out HFL.out).mono ?_; rintro e w9 ⟨rfl, hB9⟩; have HV9 := Aside0.mk (VP.alloc (VP.to HV8.out hB9) (.cells #[.int .i64 0, .slice none 0 0, .slice none 0 0] 34)); clear hB9))
      go_ret
      exact ⟨rfl, HV9.out.below⟩
    · have HFL := Aside0.mk hfull
      have HN := Aside0.mk (full_head hfull).1
      clear hfull
      go_wp2_with fail
      with_reducible refine (pick_any nn 1048576 1099511627776 (.slice A2 0 c2) A3 c3 l2 _ HQ.out HV8.out.fT HC3.out hlen2.out rest HFL.out).mono ?_
      rintro e w9 ⟨li, lo, hi, A5, c5, A6, c6, hT, h1, har, rfl, hC5, hc5, hC6, hc6, hB9⟩
      have HAL := Aside0.mk (apart_law HVOK.out hT h1 har _ _ rfl rfl)
      have HLI := Aside0.mk (show li.length ≤ 200 from by
        rcases hT with ⟨_, rfl⟩ | ⟨_, y, _, rfl⟩
        · exact Nat.le_trans (List.length_filter_le _ _) hlen2.out
        · simp)
      obtain ⟨ins, hins⟩ : ∃ x, sortI (li.map idT) = x := ⟨_, rfl⟩
      obtain ⟨over, hover⟩ : ∃ x, sortI ((l2.filter (ovP (nn + 1) lo hi)).map idT) = x := ⟨_, rfl⟩
      have hil : ins.length ≤ 200 := by rw [← hins, sortI_length, List.length_map]; exact HLI.out
      have hol : over.length ≤ 200 := by rw [← hover, sortI_length, List.length_map]; exact Nat.le_trans (List.length_filter_le _ _) hlen2.out
      rw [hins] at HAL hC5 hc5 ⊢
      rw [hover] at HAL hC6 hc6 ⊢
      have HC5 := Aside0.mk hC5
      have HD5 := Aside0.mk hc5
      have HC6 := Aside0.mk hC6
      have HD6 := Aside0.mk hc6
      have HIL := Aside0.mk hil
      have HOL := Aside0.mk hol
      have HB9 := Aside0.mk hB9
      have HV9 := Aside0.mk (VP.to HV8.out hB9)
      clear hT h1 har hC5 hc5 hC6 hc6 hB9 hins hover hil hol HLI c80 c81 c82 c83
      have d90 : ∀ o, (w9.alloc o).cell? ⟨w.heap.size, 0, none⟩ = some (.int .i64 1048576) := fun o => (blk_cell (blk_alloc HV9.out.bv o) 0).trans rfl
      have d91 : ∀ o, (w9.alloc o).cell? ⟨w.heap.size, 1, none⟩ = some (.int .i64 1099511627776) := fun o => (blk_cell (blk_alloc HV9.out.bv o) 1).trans rfl
      have d92 : ∀ o, (w9.alloc o).cell? ⟨w.heap.size, 2, none⟩ = some (.slice A2 0 c2) := fun o => (blk_cell (blk_alloc HV9.out.bv o) 2).trans rfl
      have d93 : ∀ o, (w9.alloc o).cell? ⟨w.heap.size, 3, none⟩ = some (.slice A3 l2.length c3) := fun o => (blk_cell (blk_alloc HV9.out.bv o) 3).trans rfl
      obtain ⟨inn, hinn⟩ : ∃ x, l2.filter (inJ ins over) = x := ⟨_, rfl⟩
      obtain ⟨out, hout⟩ : ∃ x, l2.filter (outJ ins over) = x := ⟨_, rfl⟩
      have hinl : inn.length ≤ 200 := by rw [← hinn]; exact Nat.le_trans (List.length_filter_le _ _) hlen2.out
      have houl : out.length ≤ 200 := by rw [← hout]; exact Nat.le_trans (List.length_filter_le _ _) hlen2.out
      have HINN := Aside0.mk hinn
      have HOUT := Aside0.mk hout
      have HINL := Aside0.mk hinl
      have HOUL := Aside0.mk houl
      rw [hinn, hout] at HAL
      have HVA := Aside0.mk (VP.alloc HV9.out (.cells #[.int .i64 nn, .slice A5 ins.length c5, .slice A6 over.length c6] 34))
      have HJA := Aside0.mk (blk_new w9 (.cells #[.int .i64 nn, .slice A5 ins.length c5, .slice A6 over.length c6] 34))
      have HC5a := Aside0.mk (Kd.C_below HC5.out (below_alloc (Below.refl w9.heap.size w9) (.cells #[.int .i64 nn, .slice A5 ins.length c5, .slice A6 over.length c6] 34)))
      have HC6a := Aside0.mk (Kd.C_below HC6.out (below_alloc (Below.refl w9.heap.size w9) (.cells #[.int .i64 nn, .slice A5 ins.length c5, .slice A6 over.length c6] 34)))
      have q1 : ((inn.length : Int) == (ins.length : Int) + (over.length : Int)) = true := by rw [beq_iff_eq]; have := HAL.out.1; omega
      have q2 : (ins.length == 0) = false := by rw [beq_eq_false_iff_ne]; have := HAL.out.2.2.2; omega
      have q3 : ((ins.length : Int) == 0) = false := by rw [beq_eq_false_iff_ne]; have := HAL.out.2.2.2; omega
      have q4 : (0 : Int) < (inn.length : Int) := by have := HAL.out.1; have := HAL.out.2.2.2; omega
      have q5 : (ins.length : Int) ≤ 200 := by have := HIL.out; omega
      have q6 : (over.length : Int) ≤ 200 := by have := HOL.out; omega
      clear hinn hout hinl houl HV9 HC5 HC6
      go_wp2_with (first | (go_at_call 13; with_reducible refine (named_c 1048576 1099511627776 nn (.slice A2 0 c2) A3 c3 l2 A5 c5 ins A6 c6 over _ HVA.out.fT HC3.out hlen2.out HC5a.out HD5.out ?_ HC6a.out HD6.out ?_).mono ?_; (exact Nat.le_trans HIL.out (by decide)); (exact Nat.le_trans HOL.out (by decide)); (rw [HINN.out, HOUT.out]); rintro e w13 ⟨A7, c7, A8, c8, rfl, hN7, hN8, hB13⟩; have HF7 := Aside0.mk (Kd.F_mono (Kd.N_F hN7) (fun _ _ => trivial) : Kd.F k47 w13 (fun _ => True) A7 inn.length inn); have HF8 := Aside0.mk (Kd.F_mono (Kd.N_F hN8) (fun _ _ => trivial) : Kd.F k47 w13 (fun _ => True) A8 out.length out); have HV13 := Aside0.mk (VP.to HVA.out hB13); have HJ13 := Aside0.mk (blk_below HJA.out hB13); have HC13 := Aside0.mk (Kd.C_below HC5a.out hB13); have c130 := blk_cell HJ13.out 0; have c131 := blk_cell HJ13.out 1; have c132 := blk_cell HJ13.out 2; clear hN7 hN8 hB13))
      rotate_left
      · rename_i hne
        exact absurd (show (inn.length : Int) = (ins.length : Int) + (over.length : Int) from by have := HAL.out.1; omega) hne
      rename ((inn.length : Int) = (ins.length : Int) + (over.length : Int)) => heq
      clear heq
      obtain ⟨x, hx⟩ : ∃ x, x = inn.getD 0 z47 := ⟨_, rfl⟩
      obtain ⟨ad7, B7, e7, rfl, y0, y1, y2, y3, y4, y5, y6, y7, y8, hyl, hyF⟩ := at_F47 HF7.out 0 (by omega) x hx
      have had : ad7.add 0 = ad7 := by simp [Addr.add]
      rw [Nat.zero_mul, had] at y6 y7
      have HS0 := Aside0.mk (show arTo inn 0 = (x.f4, x.f5) from by unfold arTo; rw [hx]; rfl)
      have HB0 := Aside0.mk (below_drew (Below.refl w13.heap.size w13))
      clear had hx hyl hyF y0 y1 y2 y3 y4 y5 y8 d90 d91 d92 d93 HVA HJA HC5a HC6a
      go_region
      go_wp2
      go_loopg [7, 8, 9] (inn.length + 1) (fun kq v7 v8 v9 wr => ∃ i : Nat, v7 = .string (arTo inn i).1 ∧ v8 = .string (arTo inn i).2 ∧ v9 = .int .i64 i ∧ Aside0 (i ≤ inn.length) ∧ Aside0 (inn.length - i < kq) ∧ Aside0 (Below w13.heap.size w13 wr))
      case atStart => exact ⟨0, by rw [HS0.out], by rw [HS0.out], rfl, ⟨Nat.zero_le _⟩, ⟨by omega⟩, HB0⟩
      case round =>
        obtain ⟨i, rfl, rfl, rfl, HI, HK, HB⟩ := hrel
        clear HB0 y6 y7 c130 c131 c132
        have hil := HI.out
        obtain ⟨clo, hlo⟩ : ∃ s, s = (arTo inn i).1 := ⟨_, rfl⟩
        obtain ⟨chi, hhi⟩ : ∃ s, s = (arTo inn i).2 := ⟨_, rfl⟩
        rw [← hlo, ← hhi]
        have HLO := Aside0.mk hlo
        have HHI := Aside0.mk hhi
        clear hlo hhi
        have hn0 : 0 ≤ nn := by rcases HN.out with rfl | rfl | rfl <;> decide
        have hn2 : nn ≤ 2 := by rcases HN.out with rfl | rfl | rfl <;> decide
        by_cases hlt : i < inn.length
        · have ht : decide (i < inn.length) = true := decide_eq_true hlt
          have ht2 : decide ((i : Int) < (inn.length : Int)) = true := decide_eq_true (by omega)
          obtain ⟨x, hx⟩ : ∃ x, x = inn.getD i z47 := ⟨_, rfl⟩
          obtain ⟨ad7', B7, e7, he, y0, y1, y2, y3, y4, y5, y6, y7, y8, hyl, hyF⟩ := at_F47 HF7.out i hlt x hx
          injection he with he
          subst he
          have HN := Aside0.mk (arTo_next inn i hlt x hx)
          have HXI := Aside0.mk (HAL.out.2.1 x (by rw [hx, List.getD_eq_getElem?_getD, List.getElem?_eq_getElem hlt]; exact List.getElem_mem _))
          have hi0 : (0 : Int) ≤ (i : Int) := by omega
          have hi1 : (i : Int) < (inn.length : Int) := by omega
          have hi2 : (i : Int) ≤ 200 := by have := HINL.out; omega
          have Y0 := Aside0.mk y0
          have Y4 := Aside0.mk y4
          have z6 := pw_cell_below HB.out y6
          have z7 := pw_cell_below HB.out y7
          have hmn := min_run
          have hmx := max_run
          have HBd := Aside0.mk (below_drew HB.out)
          clear hx hyl hyF y0 y1 y2 y3 y4 y5 y6 y7 y8
          go_wp2
          go_region
          clear hmn hmx z6 z7
          go_wp2
          have HSJ := Aside0.mk (fun (W : World) (h : Below w13.heap.size w13 W) => (⟨pw_cell_below h (blk_cell HJ13.out 1), pw_cell_below h Y0.out, ⟨h⟩⟩ : W.cell? ⟨w9.heap.size, 1, none⟩ = some (.slice A5 ins.length c5) ∧ W.cell? (ad7.add (i * 9)) = some (.int .i64 x.f0.f0) ∧ Aside0 (Below w13.heap.size w13 W)))
          have HOF := Aside0.mk (fun (W : World) (h : W.cell? ⟨w9.heap.size, 1, none⟩ = some (.slice A5 ins.length c5) ∧ W.cell? (ad7.add (i * 9)) = some (.int .i64 x.f0.f0) ∧ Aside0 (Below w13.heap.size w13 W)) => h.2.2.out)
          have HIM := Aside0.mk (show ins.length ≤ 1000000 from Nat.le_trans HIL.out (by decide))
          cases hlv : lvl nn x with
          | true =>
            have HOWN := Aside0.mk (HXI.out.1.trans hlv)
            have tl : (x.f2 == nn) = true := hlv
            clear hlv
            go_region_held3 (fun W => W.cell? ⟨w9.heap.size, 1, none⟩ = some (.slice A5 ins.length c5) ∧ W.cell? (ad7.add (i * 9)) = some (.int .i64 x.f0.f0) ∧ Aside0 (Below w13.heap.size w13 W)) (first | exact HSJ.out _ (below_drew HBd.out) | exact HSJ.out _ (HOF.out _ (by assumption)) | exact HSJ.out _ (below_step (HOF.out _ (by assumption)) (by assumption)))
              (first | (go_at_call 14; refine (has_c A5 c5 ins x.f0.f0 _ HOWN.out _ ?_ HD5.out HIM.out).mono ?_; (exact Kd.C_below HC13.out (HOF.out _ (by assumption))); rintro e W14 ⟨rfl, hB14⟩))
            have HB14 := Aside0.mk (HOF.out W14 (by assumption))
            have z4 := pw_cell_below HB14.out Y4.out
            have j0 := pw_cell_below HB14.out (blk_cell HJ13.out 0)
            go_wp2
            go_quiet (fail)
            go_wp2
            go_roundg (inn.length - i)
            case measure => exact HK.out
            case rel => exact ⟨i + 1, by rw [HN.out]; unfold arStep; rw [← HLO.out, ← HHI.out], by rw [HN.out]; unfold arStep; rw [← HLO.out, ← HHI.out], by go_num, ⟨by omega⟩, ⟨by omega⟩, ⟨(by repeat (first | (with_reducible first | exact HB14.out | apply below_alloc | apply pw_below_drewN | apply below_drew1 | apply below_drew) | exact HB14.out))⟩⟩
          | false =>
            have HOWN := Aside0.mk (HXI.out.1.trans hlv)
            have tl : (x.f2 == nn) = false := hlv
            have tm : (x.f2 == nn + 1) = true := beq_iff_eq.2 (HXI.out.2 hlv)
            clear hlv
            go_region_held3 (fun W => W.cell? ⟨w9.heap.size, 1, none⟩ = some (.slice A5 ins.length c5) ∧ W.cell? (ad7.add (i * 9)) = some (.int .i64 x.f0.f0) ∧ Aside0 (Below w13.heap.size w13 W)) (first | exact HSJ.out _ (below_drew HBd.out) | exact HSJ.out _ (HOF.out _ (by assumption)) | exact HSJ.out _ (below_step (HOF.out _ (by assumption)) (by assumption)))
              (first | (go_at_call 14; refine (has_c A5 c5 ins x.f0.f0 _ HOWN.out _ ?_ HD5.out HIM.out).mono ?_; (exact Kd.C_below HC13.out (HOF.out _ (by assumption))); rintro e W14 ⟨rfl, hB14⟩))
            have HB14 := Aside0.mk (HOF.out W14 (by assumption))
            have z4 := pw_cell_below HB14.out Y4.out
            have j0 := pw_cell_below HB14.out (blk_cell HJ13.out 0)
            go_wp2
            go_quiet (fail)
            go_wp2
            go_roundg (inn.length - i)
            case measure => exact HK.out
            case rel => exact ⟨i + 1, by rw [HN.out]; unfold arStep; rw [← HLO.out, ← HHI.out], by rw [HN.out]; unfold arStep; rw [← HLO.out, ← HHI.out], by go_num, ⟨by omega⟩, ⟨by omega⟩, ⟨(by repeat (first | (with_reducible first | exact HB14.out | apply below_alloc | apply pw_below_drewN | apply below_drew1 | apply below_drew) | exact HB14.out))⟩⟩
        · have ht : decide (i < inn.length) = false := decide_eq_false hlt
          have ht2 : decide ((i : Int) < (inn.length : Int)) = false := decide_eq_false (by omega)
          have HAR := Aside0.mk (show arTo inn i = arL inn from by unfold arTo arL; rw [List.take_of_length_le (by omega)])
          go_wp2
          go_loopg [11] (out.length + 1) (fun kq v11 wr => ∃ j : Nat, v11 = .int .i64 j ∧ Aside0 (j ≤ out.length) ∧ Aside0 (out.length - j < kq) ∧ Aside0 (Below w13.heap.size w13 wr))
          case atStart => exact ⟨0, rfl, ⟨Nat.zero_le _⟩, ⟨by omega⟩, HB⟩
          case round =>
            obtain ⟨j, rfl, HJ, HKj, HBj⟩ := hrel
            have hjl := HJ.out
            by_cases hjt : j < out.length
            · have tj : decide (j < out.length) = true := decide_eq_true hjt
              have tj2 : decide ((j : Int) < (out.length : Int)) = true := decide_eq_true (by omega)
              obtain ⟨t, htx⟩ : ∃ t, t = out.getD j z47 := ⟨_, rfl⟩
              obtain ⟨ad8, B8, e8, rfl, y0, y1, y2, y3, y4, y5, y6, y7, y8, hyl, hyF⟩ := at_F47 HF8.out j hjt t htx
              have HTO := Aside0.mk (HAL.out.2.2.1 t (by rw [htx, List.getD_eq_getElem?_getD, List.getElem?_eq_getElem hjt]; exact List.getElem_mem _))
              have hj0 : (0 : Int) ≤ (j : Int) := by omega
              have hj1 : (j : Int) < (out.length : Int) := by omega
              have hj2 : (j : Int) ≤ 200 := by have := HOUL.out; omega
              replace y0 := pw_cell_below HBj.out y0
              replace y1 := pw_cell_below HBj.out y1
              replace y2 := pw_cell_below HBj.out y2
              replace y3 := pw_cell_below HBj.out y3
              replace y4 := pw_cell_below HBj.out y4
              replace y5 := pw_cell_below HBj.out y5
              replace y6 := pw_cell_below HBj.out y6
              replace y7 := pw_cell_below HBj.out y7
              replace y8 := pw_cell_below HBj.out y8
              have dj : ∀ o, (wr.alloc o).cell? ⟨w9.heap.size, 0, none⟩ = some (.int .i64 nn) := fun o => (blk_cell (blk_alloc (blk_below HJ13.out HBj.out) o) 0).trans rfl
              have HOV := Aside0.mk (show ¬ (t.f2 = nn + 1 ∧ leS t.f4 chi = true ∧ leS clo t.f5 = true) from fun h => by
                have h2 := HTO.out.1
                rw [← HAR.out, ← HLO.out, ← HHI.out, ov_iff.2 h] at h2
                cases h2)
              clear htx hyl hyF
              by_cases hz : nn = 0
              · have tz : (nn == 0) = true := beq_iff_eq.2 hz
                have tt : (t.f2 == 0) = false := beq_eq_false_iff_ne.2 (fun h => HTO.out.2 ⟨hz, h⟩)
                clear hz
                by_cases hv : t.f2 = nn + 1
                · have tv : (t.f2 == nn + 1) = true := beq_iff_eq.2 hv
                  have HVV := Aside0.mk hv
                  clear hv
                  cases ha : leS t.f4 chi with
                  | true =>
                    cases hb : leS clo t.f5 with
                    | true => exact absurd ⟨HVV.out, ha, hb⟩ HOV.out
                    | false =>
                      have a1 := leS_or.1 ha
                      have b1 := leS_nn hb
                      have b2 := leS_n2 hb
                      have b3 := leS_n3 hb
                      clear ha hb
                      go_wp2
                      go_roundg (out.length - j)
                      case measure => exact HKj.out
                      case rel => exact ⟨j + 1, by go_num, ⟨by omega⟩, ⟨by omega⟩, ⟨below_alloc HBj.out _⟩⟩
                  | false =>
                    have a1 := leS_nn ha
                    have a2 := leS_n2 ha
                    have a3 := leS_n3 ha
                    clear ha
                    go_wp2
                    go_roundg (out.length - j)
                    case measure => exact HKj.out
                    case rel => exact ⟨j + 1, by go_num, ⟨by omega⟩, ⟨by omega⟩, ⟨below_alloc HBj.out _⟩⟩
                · have tv : (t.f2 == nn + 1) = false := beq_eq_false_iff_ne.2 hv
                  clear hv
                  go_wp2
                  go_roundg (out.length - j)
                  case measure => exact HKj.out
                  case rel => exact ⟨j + 1, by go_num, ⟨by omega⟩, ⟨by omega⟩, ⟨below_alloc HBj.out _⟩⟩
              · have tz : (nn == 0) = false := beq_eq_false_iff_ne.2 hz
                clear hz
                by_cases hv : t.f2 = nn + 1
                · have tv : (t.f2 == nn + 1) = true := beq_iff_eq.2 hv
                  have HVV := Aside0.mk hv
                  clear hv
                  cases ha : leS t.f4 chi with
                  | true =>
                    cases hb : leS clo t.f5 with
                    | true => exact absurd ⟨HVV.out, ha, hb⟩ HOV.out
                    | false =>
                      have a1 := leS_or.1 ha
                      have b1 := leS_nn hb
                      have b2 := leS_n2 hb
                      have b3 := leS_n3 hb
                      clear ha hb
                      go_wp2
                      go_roundg (out.length - j)
                      case measure => exact HKj.out
                      case rel => exact ⟨j + 1, by go_num, ⟨by omega⟩, ⟨by omega⟩, ⟨below_alloc HBj.out _⟩⟩
                  | false =>
                    have a1 := leS_nn ha
                    have a2 := leS_n2 ha
                    have a3 := leS_n3 ha
                    clear ha
                    go_wp2
                    go_roundg (out.length - j)
                    case measure => exact HKj.out
                    case rel => exact ⟨j + 1, by go_num, ⟨by omega⟩, ⟨by omega⟩, ⟨below_alloc HBj.out _⟩⟩
                · have tv : (t.f2 == nn + 1) = false := beq_eq_false_iff_ne.2 hv
                  clear hv
                  go_wp2
                  go_roundg (out.length - j)
                  case measure => exact HKj.out
                  case rel => exact ⟨j + 1, by go_num, ⟨by omega⟩, ⟨by omega⟩, ⟨below_alloc HBj.out _⟩⟩
            · have tj : decide (j < out.length) = false := decide_eq_false hjt
              have tj2 : decide ((j : Int) < (out.length : Int)) = false := decide_eq_false (by omega)
              have HBZ := Aside0.mk (below_step HV13.out.below HBj.out)
              go_wp2
              go_ret
              exact ⟨rfl, HBZ.out⟩
end Go.Proofs.Ytgnmdhjnpbnacaa.PB
end
section
set_option linter.unusedVariables false
namespace Go.Proofs.Ytgnmdhjnpbnacaa.PB
open Go.RowKit Go.Proofs.YtgnmdhjnpbnacaaW.PrintWords Go.Proofs.YtgnmdhjnpbnacaaW.PrintLast Go.Proofs.YtgnmdhjnpbnacaaW.PrintMore
theorem apart_w (v : S25) (A2 : Option Addr) (c2 : Nat) (A3 : Option Addr) (c3 : Nat) (l2 : v.f2.length ≤ c2) {w0 : World} (g2 : k57.C w0 A2 v.f2.length v.f2) (l3 : v.f3.length ≤ c3) (g3 : k47.C w0 A3 v.f3.length v.f3) (hG : v.f3.length ≤ 1353245080339 ∧ ∀ a ∈ v.f3, okT a) (w : World) (e : w0 = w := by rfl) :
    Calls Try.prog 4 #[.agg [.int .i64 v.f0, .int .i64 v.f1, .slice A2 v.f2.length c2, .slice A3 v.f3.length c3].toArray] w fun e w' => e = .returned (.bool true) ∧ Below w.heap.size w w' := by
  subst e
  exact apart_c v.f0 v.f1 A2 c2 v.f2 A3 c3 v.f3 w0 (by omega) g2 l2 (Kd.C_F k47_heap g3) l3 hG.2
end Go.Proofs.Ytgnmdhjnpbnacaa.PB
end
