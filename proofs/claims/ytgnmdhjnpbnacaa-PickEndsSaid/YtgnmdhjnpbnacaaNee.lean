/- The claim by itself: plain laws and walks. -/
import Derived.Test.YtgnmdhjnpbnacaaNea
import Derived.Test.YtgnmdhjnpbnacaaNeb
import Derived.Test.YtgnmdhjnpbnacaaNec
import Derived.Test.YtgnmdhjnpbnacaaNed
import Derived.Shelf.Small.Strs
import Derived.Laws.EntriesVeiled
set_option linter.unusedVariables false
set_option linter.unusedSimpArgs false
section
set_option linter.unusedVariables false
set_option linter.unusedSimpArgs false
namespace Go.Proofs.Ytgnmdhjnpbnacaa.PB
open Go.RowKit Go.Proofs.YtgnmdhjnpbnacaaW.PrintWords Go.Proofs.YtgnmdhjnpbnacaaW.PrintLast Go.Proofs.YtgnmdhjnpbnacaaW.PrintMore
def is8.T16 : Bool × List (List Nat × List Nat) := (true, [([], []), ([0], [0]), ([1], [1]), ([2, 1], [2]), ([3], [3]), ([4, 3], [3, 4]), ([3], [3]), ([6, 3], [3, 6]), ([5, 7, 3], [3, 5, 7]), ([3, 8], [3, 8]), ([9, 3], [9]), ([10], [10]), ([11, 10], [10, 11]), ([12, 10, 10], [10, 12]), ([13], [13]), ([14, 13], [13, 14]), ([13], [13]), ([16, 13], [13, 16]), ([15, 17, 13], [13, 15, 17]), ([18, 13], [13, 18]), ([19, 13], [13, 19]), ([20, 13], [13, 20]), ([13], [13]), ([22, 13], [13, 22]), ([23, 13], [13, 23]), ([21, 24, 13], [13, 21, 24]), ([13, 25, 10], [10, 13, 25]), ([10, 26], [10, 26])])
def is8.B16 : List Nat := [0, 1, 3, 7, 15, 31, 15, 79, 255, 511, 1023, 2047, 4095, 8191, 16383, 32767, 16383, 81919, 262143, 524287, 1048575, 2097151, 16383, 4210687, 12599295, 33554431, 67108863, 134217727]
theorem is8.tab16 : rtab .any (opsOf Try.f8 16) = is8.T16 := by kernel_rfl
theorem is8.bits16 : waitsOk is8.T16.2 is8.B16 = true := by kernel_rfl
def is8.T18 : Bool × List (List Nat × List Nat) := (true, [([], []), ([], []), ([1], [1]), ([2], [2]), ([3], [3]), ([0, 4], [0, 4]), ([], []), ([], []), ([7], [7]), ([8, 5], [8]), ([6, 9, 9], [6, 9]), ([5, 10, 0, 1, 2, 3, 4, 5], [0, 5]), ([10, 11, 0, 1, 2, 3, 4, 5, 6, 7, 8, 9, 10, 11], [6, 10])])
def is8.B18 : List Nat := [0, 0, 2, 6, 14, 31, 0, 0, 128, 447, 1023, 2047, 4095]
theorem is8.tab18 : rtab .any (opsOf Try.f8 18) = is8.T18 := by kernel_rfl
theorem is8.bits18 : waitsOk is8.T18.2 is8.B18 = true := by kernel_rfl
def is8.T22 : Bool × List (List Nat × List Nat) := (true, [([], []), ([0], [0]), ([1], [1]), ([2], [2]), ([3], [3]), ([4, 3], [3, 4]), ([3], [3]), ([5, 6, 3], [3, 5, 6]), ([7, 3], [3, 7]), ([8, 3], [3, 8]), ([3], [3]), ([10, 3], [3, 10]), ([9, 11, 3], [3, 9, 11]), ([3, 12], [3, 12]), ([13, 3], [13]), ([14], [14]), ([14], [14]), ([16, 14], [14, 16]), ([14], [14]), ([17, 18, 14], [14, 17, 18]), ([19, 14], [14, 19]), ([15, 20, 14, 14], [14, 15, 20]), ([14, 21], [14, 21])])
def is8.B22 : List Nat := [0, 1, 3, 7, 15, 31, 15, 127, 255, 511, 15, 1039, 4095, 8191, 16383, 32767, 32767, 98303, 32767, 491519, 1015807, 2097151, 4194303]
theorem is8.tab22 : rtab .any (opsOf Try.f8 22) = is8.T22 := by kernel_rfl
theorem is8.bits22 : waitsOk is8.T22.2 is8.B22 = true := by kernel_rfl
def IsPost (w : World) (l : List S47) (e : Ending) (w' : World) : Prop := ∃ b : Bool, e = .returned (.bool b) ∧ (b = true → VOK l) ∧ Below w.heap.size w w'
theorem IsPost.no {w w' : World} {l : List S47} (h : Below w.heap.size w w') : IsPost w l (.returned (.bool false)) w' := ⟨false, rfl, (fun h => by cases h), h⟩
/-- what the walk leans on, in each world it comes to. -/
structure IP (w0 : World) (g2 : Nat) (b1 b2 : Array Value) (W : World) : Prop where
  below : Below w0.heap.size w0 W
  b1 : W.heap[w0.heap.size]? = some (.cells b1 25 (0, 0))
  b2 : W.heap[g2]? = some (.cells b2 47 (0, 0))
theorem IP.to {w0 : World} {g2 : Nat} {b1 b2 : Array Value} {W W2 : World} (h : IP w0 g2 b1 b2 W) (hB : Below W.heap.size W W2) : IP w0 g2 b1 b2 W2 := ⟨below_step h.below hB, blk_below h.b1 hB, blk_below h.b2 hB⟩
theorem IP.drew {w0 : World} {g2 : Nat} {b1 b2 : Array Value} {W : World} (h : IP w0 g2 b1 b2 W) : IP w0 g2 b1 b2 W.drew := h.to (below_drew (Below.refl _ _))
theorem IP.alloc {w0 : World} {g2 : Nat} {b1 b2 : Array Value} {W : World} (h : IP w0 g2 b1 b2 W) (o : Obj) : IP w0 g2 b1 b2 (W.alloc o) := h.to (below_alloc (Below.refl _ _) o)
theorem IP.grown {w0 : World} {g2 : Nat} {b1 b2 : Array Value} {W W2 : World} {base : Nat} {ok : Nat → Prop} {v : Value} {xs : List Int} (h : IP w0 g2 b1 b2 W) (hR : kI.R 3 W base ok v xs) (hB : Below w0.heap.size w0 W2) (hg : W.grownBy W2 v.ownBlock) : IP w0 g2 b1 b2 W2 := ⟨hB, blk_grown h.b1 hg (Kd.R_ne hR h.b1 (by decide)), blk_grown h.b2 hg (Kd.R_ne hR h.b2 (by decide))⟩
abbrev tabC (x : S47) (A5 : Option Addr) (c5 : Nat) : Array Value := #[.int .i64 x.f0.f0, .int .i64 x.f0.f1, .slice A5 x.f0.f2.length c5, .int .i64 x.f1, .int .i64 x.f2, .int .i64 x.f3, .string x.f4, .string x.f5, .int .i64 x.f6]
abbrev verC (Al : Option Addr) (cl : Nat) (A : Option Addr) (c : Nat) (l : List S47) : Array Value := #[.int .i64 1048576, .int .i64 1099511627776, .slice Al 0 cl, .slice A l.length c]
theorem istab_c (x : S47) : ∃ b : Bool, (b = true → TabOK x) ∧ ∀ (A5 : Option Addr) (c5 : Nat) (W : World), Kd.C k79 W A5 x.f0.f2.length x.f0.f2 → x.f0.f2.length ≤ c5 → Calls Try.prog 26 #[.agg #[.int .i64 x.f0.f0, .int .i64 x.f0.f1, .slice A5 x.f0.f2.length c5, .int .i64 x.f1, .int .i64 x.f2, .int .i64 x.f3, .string x.f4, .string x.f5, .int .i64 x.f6]] W fun e w' => e = .returned (.bool b) ∧ Below W.heap.size W w' := by
  obtain ⟨b, hb, hok⟩ := table_ev x (fun h => leS_of_not (by simpa using h))
  obtain ⟨k, hk⟩ := hb.rounds
  exact ⟨b, hok, fun A5 c5 W hC hc => lienref15_IsTable.calls k x.f0.f0 x.f0.f1 A5 c5 x.f0.f2 x.f1 x.f2 x.f3 x.f4 x.f5 x.f6 b W hC hc hk⟩
theorem IP.s0 {w : World} {g : Nat} {Al : Option Addr} {cl : Nat} {A : Option Addr} {c : Nat} {l : List S47} {x : S47} {A5 : Option Addr} {c5 : Nat} {W : World} (h : IP w g (verC Al cl A c l) (tabC x A5 c5) W) : W.cell? ⟨g, 0, none⟩ = some (.int .i64 x.f0.f0) ∧ W.cell? ⟨g, 1, none⟩ = some (.int .i64 x.f0.f1) ∧ W.cell? ⟨g, 2, none⟩ = some (.slice A5 x.f0.f2.length c5) ∧ W.cell? ⟨g, 3, none⟩ = some (.int .i64 x.f1) ∧ W.cell? ⟨g, 4, none⟩ = some (.int .i64 x.f2) ∧ W.cell? ⟨g, 5, none⟩ = some (.int .i64 x.f3) ∧ W.cell? ⟨g, 6, none⟩ = some (.string x.f4) ∧ W.cell? ⟨g, 7, none⟩ = some (.string x.f5) ∧ W.cell? ⟨g, 8, none⟩ = some (.int .i64 x.f6) ∧ W.cell? ⟨w.heap.size, 1, none⟩ = some (.int .i64 1099511627776) ∧ W.cell? ⟨w.heap.size, 3, none⟩ = some (.slice A l.length c) := ⟨blk_cell h.b2 0, blk_cell h.b2 1, blk_cell h.b2 2, blk_cell h.b2 3, blk_cell h.b2 4, blk_cell h.b2 5, blk_cell h.b2 6, blk_cell h.b2 7, blk_cell h.b2 8, blk_cell h.b1 1, blk_cell h.b1 3⟩
theorem IP.s16 {w : World} {g : Nat} {Al : Option Addr} {cl : Nat} {A : Option Addr} {c : Nat} {l : List S47} {x : S47} {A5 : Option Addr} {c5 : Nat} {W : World} (h : IP w g (verC Al cl A c l) (tabC x A5 c5) W) : W.cell? ⟨g, 0, none⟩ = some (.int .i64 x.f0.f0) ∧ W.cell? ⟨g, 1, none⟩ = some (.int .i64 x.f0.f1) ∧ W.cell? ⟨g, 2, none⟩ = some (.slice A5 x.f0.f2.length c5) ∧ W.cell? ⟨g, 3, none⟩ = some (.int .i64 x.f1) ∧ W.cell? ⟨g, 4, none⟩ = some (.int .i64 x.f2) ∧ W.cell? ⟨g, 5, none⟩ = some (.int .i64 x.f3) ∧ W.cell? ⟨g, 6, none⟩ = some (.string x.f4) ∧ W.cell? ⟨g, 7, none⟩ = some (.string x.f5) ∧ W.cell? ⟨g, 8, none⟩ = some (.int .i64 x.f6) ∧ W.cell? ⟨w.heap.size, 1, none⟩ = some (.int .i64 1099511627776) ∧ W.cell? ⟨w.heap.size, 3, none⟩ = some (.slice A l.length c) ∧ Aside0 (IP w g (verC Al cl A c l) (tabC x A5 c5) W) := ⟨blk_cell h.b2 0, blk_cell h.b2 1, blk_cell h.b2 2, blk_cell h.b2 3, blk_cell h.b2 4, blk_cell h.b2 5, blk_cell h.b2 6, blk_cell h.b2 7, blk_cell h.b2 8, blk_cell h.b1 1, blk_cell h.b1 3, ⟨h⟩⟩
theorem IP.s16p {w : World} {g : Nat} {Al : Option Addr} {cl : Nat} {A : Option Addr} {c : Nat} {l : List S47} {x : S47} {A5 : Option Addr} {c5 : Nat} {W : World} {ad : Addr} {i : Nat} {y : S47} (hy : w.cell? (ad.add ((i - 1) * 9)) = some (.int .i64 y.f0.f0)) (h : IP w g (verC Al cl A c l) (tabC x A5 c5) W) : W.cell? ⟨g, 0, none⟩ = some (.int .i64 x.f0.f0) ∧ W.cell? ⟨g, 1, none⟩ = some (.int .i64 x.f0.f1) ∧ W.cell? ⟨g, 2, none⟩ = some (.slice A5 x.f0.f2.length c5) ∧ W.cell? ⟨g, 3, none⟩ = some (.int .i64 x.f1) ∧ W.cell? ⟨g, 4, none⟩ = some (.int .i64 x.f2) ∧ W.cell? ⟨g, 5, none⟩ = some (.int .i64 x.f3) ∧ W.cell? ⟨g, 6, none⟩ = some (.string x.f4) ∧ W.cell? ⟨g, 7, none⟩ = some (.string x.f5) ∧ W.cell? ⟨g, 8, none⟩ = some (.int .i64 x.f6) ∧ W.cell? ⟨w.heap.size, 1, none⟩ = some (.int .i64 1099511627776) ∧ W.cell? ⟨w.heap.size, 3, none⟩ = some (.slice A l.length c) ∧ W.cell? (ad.add ((i - 1) * 9)) = some (.int .i64 y.f0.f0) ∧ Aside0 (IP w g (verC Al cl A c l) (tabC x A5 c5) W) := ⟨blk_cell h.b2 0, blk_cell h.b2 1, blk_cell h.b2 2, blk_cell h.b2 3, blk_cell h.b2 4, blk_cell h.b2 5, blk_cell h.b2 6, blk_cell h.b2 7, blk_cell h.b2 8, blk_cell h.b1 1, blk_cell h.b1 3, pw_cell_below h.below hy, ⟨h⟩⟩
theorem IP.s22 {w : World} {g : Nat} {Al : Option Addr} {cl : Nat} {A : Option Addr} {c : Nat} {l : List S47} {x : S47} {A5 : Option Addr} {c5 : Nat} {W : World} {ad : Addr} {j : Nat} {y : S47} {A6 : Option Addr} {c6 : Nat} (y0 : w.cell? (ad.add (j * 9)) = some (.int .i64 y.f0.f0)) (y1 : w.cell? ⟨(ad.add (j * 9)).block, (ad.add (j * 9)).off + 1, none⟩ = some (.int .i64 y.f0.f1)) (y2 : w.cell? ⟨(ad.add (j * 9)).block, (ad.add (j * 9)).off + 2, none⟩ = some (.slice A6 y.f0.f2.length c6)) (y3 : w.cell? ⟨(ad.add (j * 9)).block, (ad.add (j * 9)).off + 3, none⟩ = some (.int .i64 y.f1)) (y4 : w.cell? ⟨(ad.add (j * 9)).block, (ad.add (j * 9)).off + 4, none⟩ = some (.int .i64 y.f2)) (y5 : w.cell? ⟨(ad.add (j * 9)).block, (ad.add (j * 9)).off + 5, none⟩ = some (.int .i64 y.f3)) (y6 : w.cell? ⟨(ad.add (j * 9)).block, (ad.add (j * 9)).off + 6, none⟩ = some (.string y.f4)) (y7 : w.cell? ⟨(ad.add (j * 9)).block, (ad.add (j * 9)).off + 7, none⟩ = some (.string y.f5)) (y8 : w.cell? ⟨(ad.add (j * 9)).block, (ad.add (j * 9)).off + 8, none⟩ = some (.int .i64 y.f6)) (h : IP w g (verC Al cl A c l) (tabC x A5 c5) W) : W.cell? ⟨g, 0, none⟩ = some (.int .i64 x.f0.f0) ∧ W.cell? ⟨g, 1, none⟩ = some (.int .i64 x.f0.f1) ∧ W.cell? ⟨g, 2, none⟩ = some (.slice A5 x.f0.f2.length c5) ∧ W.cell? ⟨g, 3, none⟩ = some (.int .i64 x.f1) ∧ W.cell? ⟨g, 4, none⟩ = some (.int .i64 x.f2) ∧ W.cell? ⟨g, 5, none⟩ = some (.int .i64 x.f3) ∧ W.cell? ⟨g, 6, none⟩ = some (.string x.f4) ∧ W.cell? ⟨g, 7, none⟩ = some (.string x.f5) ∧ W.cell? ⟨g, 8, none⟩ = some (.int .i64 x.f6) ∧ W.cell? ⟨w.heap.size, 3, none⟩ = some (.slice A l.length c) ∧ W.cell? (ad.add (j * 9)) = some (.int .i64 y.f0.f0) ∧ W.cell? ⟨(ad.add (j * 9)).block, (ad.add (j * 9)).off + 1, none⟩ = some (.int .i64 y.f0.f1) ∧ W.cell? ⟨(ad.add (j * 9)).block, (ad.add (j * 9)).off + 2, none⟩ = some (.slice A6 y.f0.f2.length c6) ∧ W.cell? ⟨(ad.add (j * 9)).block, (ad.add (j * 9)).off + 3, none⟩ = some (.int .i64 y.f1) ∧ W.cell? ⟨(ad.add (j * 9)).block, (ad.add (j * 9)).off + 4, none⟩ = some (.int .i64 y.f2) ∧ W.cell? ⟨(ad.add (j * 9)).block, (ad.add (j * 9)).off + 5, none⟩ = some (.int .i64 y.f3) ∧ W.cell? ⟨(ad.add (j * 9)).block, (ad.add (j * 9)).off + 6, none⟩ = some (.string y.f4) ∧ W.cell? ⟨(ad.add (j * 9)).block, (ad.add (j * 9)).off + 7, none⟩ = some (.string y.f5) ∧ W.cell? ⟨(ad.add (j * 9)).block, (ad.add (j * 9)).off + 8, none⟩ = some (.int .i64 y.f6) ∧ Aside0 (IP w g (verC Al cl A c l) (tabC x A5 c5) W) := ⟨blk_cell h.b2 0, blk_cell h.b2 1, blk_cell h.b2 2, blk_cell h.b2 3, blk_cell h.b2 4, blk_cell h.b2 5, blk_cell h.b2 6, blk_cell h.b2 7, blk_cell h.b2 8, blk_cell h.b1 3, pw_cell_below h.below y0, pw_cell_below h.below y1, pw_cell_below h.below y2, pw_cell_below h.below y3, pw_cell_below h.below y4, pw_cell_below h.below y5, pw_cell_below h.below y6, pw_cell_below h.below y7, pw_cell_below h.below y8, ⟨h⟩⟩
set_option maxHeartbeats 16000000 in
set_option maxRecDepth 100000 in
theorem is_c (Al : Option Addr) (cl : Nat) (A : Option Addr) (c : Nat) (l : List S47) (w : World) (hF : Kd.F k47 w (fun _ => True) A l.length l) (hc : l.length ≤ c) (hl : l.length ≤ 200) :
    Calls Try.prog 8 #[.agg #[.int .i64 1048576, .int .i64 1099511627776, .slice Al 0 cl, .slice A l.length c]] w (IsPost w l) := by
  have HF := Aside0.mk (Kd.F_bound hF)
  have HB := Aside0.mk (below_alloc (Below.refl w.heap.size w) (.cells #[.int .i64 1048576, .int .i64 1099511627776, .slice Al 0 cl, .slice A l.length c] 25))
  have HR := Aside0.mk (blk_new w (.cells #[.int .i64 1048576, .int .i64 1099511627776, .slice Al 0 cl, .slice A l.length c] 25))
  have HLL := Aside0.mk hl
  clear hF hl
  by_cases h128 : l.length ≤ 128
  · have t128 : decide ((128 : Int) < (l.length : Int)) = false := decide_eq_false (by omega)
    go_enter Try.func8, Try.ntmps8
    go_wp2_with (first | (go_at_call 23; refine (from_t _ _ _ ?_ ?_ _).mono ?_; (decide); (decide); rintro e w2 ⟨rfl, hB2⟩; have n0 := Aside0.mk (below_step HB.out hB2); have n1 := Aside0.mk (blk_below HR.out hB2); clear HB HR hB2; have HB := n0; have HR := n1; clear n0 n1; have c0 := blk_cell HR.out 0; have c1 := blk_cell HR.out 1; have c2 := blk_cell HR.out 2; have c3 := blk_cell HR.out 3))
    go_loopg [3, 4, 5] 1 (fun kq v3 v4 v5 wr => v3 = .slice none 0 0 ∧ v4 = .slice none 0 0 ∧ v5 = .int .i64 0 ∧ Aside0 (Below w.heap.size w wr) ∧ Aside0 (wr.heap[w.heap.size]? = some (.cells (verC Al cl A c l) 25 (0, 0))))
    case atStart => exact ⟨rfl, rfl, rfl, HB, HR⟩
    case round =>
      obtain ⟨rfl, rfl, rfl, HB1, HR1⟩ := hrel
      clear HB HR c0 c1 c2 c3
      have c0 := blk_cell HR1.out 0
      have c1 := blk_cell HR1.out 1
      have c2 := blk_cell HR1.out 2
      have c3 := blk_cell HR1.out 3
      go_wp2
      go_loopg [3, 4, 8] (l.length + 1) (fun kq v3 v4 v8 wr => ∃ (i : Nat) (ids all : List Int), v8 = .int .i64 i ∧ Aside0 (i ≤ l.length) ∧ Aside0 (l.length - i < kq) ∧ Aside0 (kI.R 3 wr w.heap.size (fun k => some k ≠ Value.ownBlock v4) v3 ids) ∧ Aside0 (kI.R 3 wr w.heap.size (fun k => some k ≠ Value.ownBlock v3) v4 all) ∧ Aside0 (ids.length = i ∧ all.length ≤ 128 * i) ∧ Aside0 (VOK (l.take i)) ∧ Aside0 (Below w.heap.size w wr) ∧ Aside0 (wr.heap[w.heap.size]? = some (.cells (verC Al cl A c l) 25 (0, 0))))
      case atStart => exact ⟨0, [], [], rfl, ⟨Nat.zero_le _⟩, ⟨by omega⟩, ⟨Kd.R_nil _ _ _ _ _⟩, ⟨Kd.R_nil _ _ _ _ _⟩, ⟨rfl, by simp⟩, ⟨VOK_nil⟩, HB1, HR1⟩
      case round =>
        clear HB1 HR1 c0 c1 c2 c3
        obtain ⟨i, ids, all, rfl, HI, HK, HO3, HO4, HLN, HV, HB, HR⟩ := hrel
        obtain ⟨A3, d3, rfl⟩ := Kd.R_slice HO3.out
        obtain ⟨A4, d4, rfl⟩ := Kd.R_slice HO4.out
        have c0 := blk_cell HR.out 0
        have c1 := blk_cell HR.out 1
        have c2 := blk_cell HR.out 2
        have c3 := blk_cell HR.out 3
        have hi := HI.out
        by_cases hlt : i < l.length
        · have ht : decide (i < l.length) = true := decide_eq_true hlt
          have ht2 : decide ((i : Int) < (l.length : Int)) = true := decide_eq_true (by omega)
          obtain ⟨x, hx⟩ : ∃ x, x = l.getD i z47 := ⟨_, rfl⟩
          obtain ⟨ad, A5, c5, rfl, x0, x1, x2, x3, x4, x5, x6, x7, x8, hl2, hF2⟩ := at_F47 HF.out i hlt x hx
          have HLX := Aside0.mk hl2
          have HFX := Aside0.mk hF2
          have HX := Aside0.mk hx
          have hi0 : (0 : Int) ≤ (i : Int) := by omega
          have hi1 : (i : Int) < (l.length : Int) := by omega
          have hi2 : (i : Int) ≤ 200 := by omega
          replace x0 := pw_cell_below HB.out x0
          replace x1 := pw_cell_below HB.out x1
          replace x2 := pw_cell_below HB.out x2
          replace x3 := pw_cell_below HB.out x3
          replace x4 := pw_cell_below HB.out x4
          replace x5 := pw_cell_below HB.out x5
          replace x6 := pw_cell_below HB.out x6
          replace x7 := pw_cell_below HB.out x7
          replace x8 := pw_cell_below HB.out x8
          clear hx hl2 hF2
          obtain ⟨bt, htab, hbt⟩ := istab_c x
          have HBT := Aside0.mk hbt
          have HTAB := Aside0.mk htab
          clear hbt htab
          have HIP := Aside0.mk (show IP w wr.heap.size (verC Al cl (some ad) c l) (tabC x A5 c5) (wr.alloc (.cells #[.int .i64 x.f0.f0, .int .i64 x.f0.f1, .slice A5 x.f0.f2.length c5, .int .i64 x.f1, .int .i64 x.f2, .int .i64 x.f3, .string x.f4, .string x.f5, .int .i64 x.f6] 47)) from ⟨below_alloc HB.out _, blk_alloc HR.out _, blk_new wr _⟩)
          have HO3a := Aside0.mk (Kd.R_alloc HO3.out (.cells #[.int .i64 x.f0.f0, .int .i64 x.f0.f1, .slice A5 x.f0.f2.length c5, .int .i64 x.f1, .int .i64 x.f2, .int .i64 x.f3, .string x.f4, .string x.f5, .int .i64 x.f6] 47))
          have HO4a := Aside0.mk (Kd.R_alloc HO4.out (.cells #[.int .i64 x.f0.f0, .int .i64 x.f0.f1, .slice A5 x.f0.f2.length c5, .int .i64 x.f1, .int .i64 x.f2, .int .i64 x.f3, .string x.f4, .string x.f5, .int .i64 x.f6] 47))
          go_upto_region 16 with fail
          generalize wr.heap.size = g at HIP ⊢
          have HIT := Aside0.mk (fun (W : World) (h : Kd.C k79 W A5 x.f0.f2.length x.f0.f2) => HBT.out A5 c5 W h HLX.out)
          have HCX := Aside0.mk (show ∀ W : World, IP w g (verC Al cl (some ad) c l) (tabC x A5 c5) W → Kd.C k79 W A5 x.f0.f2.length x.f0.f2 from fun W h => Kd.C_below (Kd.F_now HFX.out) h.below)
          go_cut [139] (fun v139 wc => ∃ b : Bool, v139 = .bool b ∧ Aside0 (b = false → TabOK x ∧ (0 < i → idT (l.getD (i - 1) z47) < idT x)) ∧ Aside0 (IP w g (verC Al cl (some ad) c l) (tabC x A5 c5) wc) ∧ Aside0 (kI.R 3 wc w.heap.size (fun k => some k ≠ Value.ownBlock (.slice A4 all.length d4)) (.slice A3 ids.length d3) ids) ∧ Aside0 (kI.R 3 wc w.heap.size (fun k => some k ≠ Value.ownBlock (.slice A3 ids.length d3)) (.slice A4 all.length d4) all))
          case first =>
            clear x0 x1 x2 x3 x4 x5 x6 x7 x8 c0 c1 c2 c3
            have HIPd := Aside0.mk (IP.drew HIP.out)
            have HO3d := Aside0.mk (Kd.R_drew HO3a.out)
            have HO4d := Aside0.mk (Kd.R_drew HO4a.out)
            cases bt with
            | false =>
              refine start_ (n := 28) (S := (fun W => W.cell? ⟨g, 0, none⟩ = some (.int .i64 x.f0.f0) ∧ W.cell? ⟨g, 1, none⟩ = some (.int .i64 x.f0.f1) ∧ W.cell? ⟨g, 2, none⟩ = some (.slice A5 x.f0.f2.length c5) ∧ W.cell? ⟨g, 3, none⟩ = some (.int .i64 x.f1) ∧ W.cell? ⟨g, 4, none⟩ = some (.int .i64 x.f2) ∧ W.cell? ⟨g, 5, none⟩ = some (.int .i64 x.f3) ∧ W.cell? ⟨g, 6, none⟩ = some (.string x.f4) ∧ W.cell? ⟨g, 7, none⟩ = some (.string x.f5) ∧ W.cell? ⟨g, 8, none⟩ = some (.int .i64 x.f6) ∧ W.cell? ⟨w.heap.size, 1, none⟩ = some (.int .i64 1099511627776) ∧ W.cell? ⟨w.heap.size, 3, none⟩ = some (.slice (some ad) l.length c) ∧ Aside0 (IP w g (verC Al cl (some ad) c l) (tabC x A5 c5) W))) (ds := []) #[false, false, false, false, false, false, false, false, false, false, false, false, false, false, false, false, false, false, false, false, false, false, false, false, false, false, false, false] (by kernel_rfl) rfl rfl (IP.s16 HIPd.out) (fun hHeld => ?_); refine with_tabW is8.tab16 is8.bits16 (fun HT_ HW_ => ?_)
              refine take_ (i := 0) (N := some 112) (v := ?_) (a' := ?_) #[true, false, false, false, false, false, false, false, false, false, false, false, false, false, false, false, false, false, false, false, false, false, false, false, false, false, false, false] rfl rfl (take_ofW HT_.out HW_.out (by kernel_rfl)) (fun _ _ _ h => h) (Or.inl ⟨by rfl, ?_⟩) hHeld ?_ ?_
              rotate_left
              · rintro w' ⟨s0, s1, s2, s3, s4, s5, s6, s7, s8, s9, s10, s11⟩
                go_simp
                with_reducible rfl
              rotate_left
              · simp only [Act.put, List.setIfInBounds_toArray, List.set_cons_zero, List.set_cons_succ, i64_w, i32_w]
                rfl
              refine one_ (i := 1) (N := some 113) #[true, true, false, false, false, false, false, false, false, false, false, false, false, false, false, false, false, false, false, false, false, false, false, false, false, false, false, false] rfl rfl (one_of HT_.out (by kernel_rfl)) (by decide) (fun K hK => ?_)
              refine goes_ Try.func26 (by kernel_rfl) rfl #[.agg #[.int .i64 x.f0.f0, .int .i64 x.f0.f1, .slice A5 x.f0.f2.length c5, .int .i64 x.f1, .int .i64 x.f2, .int .i64 x.f3, .string x.f4, .string x.f5, .int .i64 x.f6]] (by rfl) rfl rfl (by (try simp only [List.map_toArray, List.map_cons, List.map_nil]); first | done | rfl | (simp only [List.length_drop, List.length_take]; rfl)) ?_
              with_reducible refine (HIT.out _ ?side).mono ?_
              (case side => exact HCX.out _ HIPd.out)
              rintro e w26 ⟨rfl, hB26⟩
              refine ⟨_, rfl, ?_⟩
              have HIP2 := Aside0.mk (IP.to HIPd.out hB26)
              have HO3b := Aside0.mk (Kd.R_below HO3d.out hB26)
              have HO4b := Aside0.mk (Kd.R_below HO4d.out hB26)
              clear hB26
              refine hK.out _ _ (IP.s16 HIP2.out) (fun hHeld => ?_)
              clear hK K
              refine norm_ (a' := ?_) ?_ ?_
              rotate_left
              · show Act.put _ (some 113) _ = _
                simp only [Act.put, List.setIfInBounds_toArray, List.set_cons_zero, List.set_cons_succ, i64_w, i32_w]
                rfl
              refine pure_ (i := 2) (N := some 114) (v := ?_) (a' := ?_) #[true, true, true, false, false, false, false, false, false, false, false, false, false, false, false, false, false, false, false, false, false, false, false, false, false, false, false, false] rfl rfl (any_of HT_.out (by kernel_rfl)) (fun _ _ _ h => h) (Or.inl ⟨by rfl, ?_⟩) ?_ ?_
              rotate_left
              · intro w'
                go_simp
                with_reducible rfl
              rotate_left
              · simp only [Act.put, List.setIfInBounds_toArray, List.set_cons_zero, List.set_cons_succ, i64_w, i32_w]
                rfl
              refine pure_ (i := 3) (N := some 115) (v := ?_) (a' := ?_) #[true, true, true, true, false, false, false, false, false, false, false, false, false, false, false, false, false, false, false, false, false, false, false, false, false, false, false, false] rfl rfl (any_of HT_.out (by kernel_rfl)) (fun _ _ _ h => h) (Or.inl ⟨by rfl, ?_⟩) ?_ ?_
              rotate_left
              · intro w'
                go_simp
                with_reducible rfl
              rotate_left
              · simp only [Act.put, List.setIfInBounds_toArray, List.set_cons_zero, List.set_cons_succ, i64_w, i32_w]
                rfl
              refine pure_ (i := 4) (N := some 116) (v := undef) (a' := ?_) #[true, true, true, true, true, false, false, false, false, false, false, false, false, false, false, false, false, false, false, false, false, false, false, false, false, false, false, false] rfl rfl (any_of HT_.out (by kernel_rfl)) (fun _ _ _ h => h) (Or.inr ⟨by rfl, rfl⟩) ?_ ?_
              rotate_left
              · simp only [Act.put, List.setIfInBounds_toArray, List.set_cons_zero, List.set_cons_succ, i64_w, i32_w]
                rfl
              refine pure_ (i := 5) (N := some 117) (v := undef) (a' := ?_) #[true, true, true, true, true, true, false, false, false, false, false, false, false, false, false, false, false, false, false, false, false, false, false, false, false, false, false, false] rfl rfl (any_of HT_.out (by kernel_rfl)) (fun _ _ _ h => h) (Or.inr ⟨by rfl, rfl⟩) ?_ ?_
              rotate_left
              · simp only [Act.put, List.setIfInBounds_toArray, List.set_cons_zero, List.set_cons_succ, i64_w, i32_w]
                rfl
              refine pure_ (i := 6) (N := some 118) (v := undef) (a' := ?_) #[true, true, true, true, true, true, true, false, false, false, false, false, false, false, false, false, false, false, false, false, false, false, false, false, false, false, false, false] rfl rfl (any_of HT_.out (by kernel_rfl)) (fun _ _ _ h => h) (Or.inr ⟨by rfl, rfl⟩) ?_ ?_
              rotate_left
              · simp only [Act.put, List.setIfInBounds_toArray, List.set_cons_zero, List.set_cons_succ, i64_w, i32_w]
                rfl
              refine pure_ (i := 7) (N := some 119) (v := undef) (a' := ?_) #[true, true, true, true, true, true, true, true, false, false, false, false, false, false, false, false, false, false, false, false, false, false, false, false, false, false, false, false] rfl rfl (any_of HT_.out (by kernel_rfl)) (fun _ _ _ h => h) (Or.inr ⟨by rfl, rfl⟩) ?_ ?_
              rotate_left
              · simp only [Act.put, List.setIfInBounds_toArray, List.set_cons_zero, List.set_cons_succ, i64_w, i32_w]
                rfl
              refine pure_ (i := 8) (N := some 120) (v := undef) (a' := ?_) #[true, true, true, true, true, true, true, true, true, false, false, false, false, false, false, false, false, false, false, false, false, false, false, false, false, false, false, false] rfl rfl (any_of HT_.out (by kernel_rfl)) (fun _ _ _ h => h) (Or.inr ⟨by rfl, rfl⟩) ?_ ?_
              rotate_left
              · simp only [Act.put, List.setIfInBounds_toArray, List.set_cons_zero, List.set_cons_succ, i64_w, i32_w]
                rfl
              refine pure_ (i := 9) (N := some 121) (v := ?_) (a' := ?_) #[true, true, true, true, true, true, true, true, true, true, false, false, false, false, false, false, false, false, false, false, false, false, false, false, false, false, false, false] rfl rfl (any_of HT_.out (by kernel_rfl)) (fun _ _ _ h => h) (Or.inl ⟨by rfl, ?_⟩) ?_ ?_
              rotate_left
              · intro w'
                go_simp
                with_reducible rfl
              rotate_left
              · simp only [Act.put, List.setIfInBounds_toArray, List.set_cons_zero, List.set_cons_succ, i64_w, i32_w]
                rfl
              refine pure_ (i := 10) (N := some 122) (v := ?_) (a' := ?_) #[true, true, true, true, true, true, true, true, true, true, true, false, false, false, false, false, false, false, false, false, false, false, false, false, false, false, false, false] rfl rfl (any_of HT_.out (by kernel_rfl)) (fun _ _ _ h => h) (Or.inl ⟨by rfl, ?_⟩) ?_ ?_
              rotate_left
              · intro w'
                go_simp
                with_reducible rfl
              rotate_left
              · simp only [Act.put, List.setIfInBounds_toArray, List.set_cons_zero, List.set_cons_succ, i64_w, i32_w]
                rfl
              refine pure_ (i := 11) (N := some 123) (v := undef) (a' := ?_) #[true, true, true, true, true, true, true, true, true, true, true, true, false, false, false, false, false, false, false, false, false, false, false, false, false, false, false, false] rfl rfl (any_of HT_.out (by kernel_rfl)) (fun _ _ _ h => h) (Or.inr ⟨by rfl, rfl⟩) ?_ ?_
              rotate_left
              · simp only [Act.put, List.setIfInBounds_toArray, List.set_cons_zero, List.set_cons_succ, i64_w, i32_w]
                rfl
              refine pure_ (i := 12) (N := some 124) (v := undef) (a' := ?_) #[true, true, true, true, true, true, true, true, true, true, true, true, true, false, false, false, false, false, false, false, false, false, false, false, false, false, false, false] rfl rfl (any_of HT_.out (by kernel_rfl)) (fun _ _ _ h => h) (Or.inr ⟨by rfl, rfl⟩) ?_ ?_
              rotate_left
              · simp only [Act.put, List.setIfInBounds_toArray, List.set_cons_zero, List.set_cons_succ, i64_w, i32_w]
                rfl
              refine pure_ (i := 13) (N := some 125) (v := undef) (a' := ?_) #[true, true, true, true, true, true, true, true, true, true, true, true, true, true, false, false, false, false, false, false, false, false, false, false, false, false, false, false] rfl rfl (any_of HT_.out (by kernel_rfl)) (fun _ _ _ h => h) (Or.inr ⟨by rfl, rfl⟩) ?_ ?_
              rotate_left
              · simp only [Act.put, List.setIfInBounds_toArray, List.set_cons_zero, List.set_cons_succ, i64_w, i32_w]
                rfl
              refine pure_ (i := 14) (N := some 126) (v := undef) (a' := ?_) #[true, true, true, true, true, true, true, true, true, true, true, true, true, true, true, false, false, false, false, false, false, false, false, false, false, false, false, false] rfl rfl (any_of HT_.out (by kernel_rfl)) (fun _ _ _ h => h) (Or.inr ⟨by rfl, rfl⟩) ?_ ?_
              rotate_left
              · simp only [Act.put, List.setIfInBounds_toArray, List.set_cons_zero, List.set_cons_succ, i64_w, i32_w]
                rfl
              refine pure_ (i := 15) (N := some 127) (v := undef) (a' := ?_) #[true, true, true, true, true, true, true, true, true, true, true, true, true, true, true, true, false, false, false, false, false, false, false, false, false, false, false, false] rfl rfl (any_of HT_.out (by kernel_rfl)) (fun _ _ _ h => h) (Or.inr ⟨by rfl, rfl⟩) ?_ ?_
              rotate_left
              · simp only [Act.put, List.setIfInBounds_toArray, List.set_cons_zero, List.set_cons_succ, i64_w, i32_w]
                rfl
              refine pure_ (i := 16) (N := some 128) (v := undef) (a' := ?_) #[true, true, true, true, true, true, true, true, true, true, true, true, true, true, true, true, true, false, false, false, false, false, false, false, false, false, false, false] rfl rfl (any_of HT_.out (by kernel_rfl)) (fun _ _ _ h => h) (Or.inr ⟨by rfl, rfl⟩) ?_ ?_
              rotate_left
              · simp only [Act.put, List.setIfInBounds_toArray, List.set_cons_zero, List.set_cons_succ, i64_w, i32_w]
                rfl
              refine pure_ (i := 17) (N := some 129) (v := undef) (a' := ?_) #[true, true, true, true, true, true, true, true, true, true, true, true, true, true, true, true, true, true, false, false, false, false, false, false, false, false, false, false] rfl rfl (any_of HT_.out (by kernel_rfl)) (fun _ _ _ h => h) (Or.inr ⟨by rfl, rfl⟩) ?_ ?_
              rotate_left
              · simp only [Act.put, List.setIfInBounds_toArray, List.set_cons_zero, List.set_cons_succ, i64_w, i32_w]
                rfl
              refine pure_ (i := 18) (N := some 130) (v := undef) (a' := ?_) #[true, true, true, true, true, true, true, true, true, true, true, true, true, true, true, true, true, true, true, false, false, false, false, false, false, false, false, false] rfl rfl (any_of HT_.out (by kernel_rfl)) (fun _ _ _ h => h) (Or.inr ⟨by rfl, rfl⟩) ?_ ?_
              rotate_left
              · simp only [Act.put, List.setIfInBounds_toArray, List.set_cons_zero, List.set_cons_succ, i64_w, i32_w]
                rfl
              refine pure_ (i := 19) (N := some 131) (v := undef) (a' := ?_) #[true, true, true, true, true, true, true, true, true, true, true, true, true, true, true, true, true, true, true, true, false, false, false, false, false, false, false, false] rfl rfl (any_of HT_.out (by kernel_rfl)) (fun _ _ _ h => h) (Or.inr ⟨by rfl, rfl⟩) ?_ ?_
              rotate_left
              · simp only [Act.put, List.setIfInBounds_toArray, List.set_cons_zero, List.set_cons_succ, i64_w, i32_w]
                rfl
              refine pure_ (i := 20) (N := some 132) (v := undef) (a' := ?_) #[true, true, true, true, true, true, true, true, true, true, true, true, true, true, true, true, true, true, true, true, true, false, false, false, false, false, false, false] rfl rfl (any_of HT_.out (by kernel_rfl)) (fun _ _ _ h => h) (Or.inr ⟨by rfl, rfl⟩) ?_ ?_
              rotate_left
              · simp only [Act.put, List.setIfInBounds_toArray, List.set_cons_zero, List.set_cons_succ, i64_w, i32_w]
                rfl
              refine pure_ (i := 21) (N := some 133) (v := undef) (a' := ?_) #[true, true, true, true, true, true, true, true, true, true, true, true, true, true, true, true, true, true, true, true, true, true, false, false, false, false, false, false] rfl rfl (any_of HT_.out (by kernel_rfl)) (fun _ _ _ h => h) (Or.inr ⟨by rfl, rfl⟩) ?_ ?_
              rotate_left
              · simp only [Act.put, List.setIfInBounds_toArray, List.set_cons_zero, List.set_cons_succ, i64_w, i32_w]
                rfl
              refine pure_ (i := 22) (N := some 134) (v := undef) (a' := ?_) #[true, true, true, true, true, true, true, true, true, true, true, true, true, true, true, true, true, true, true, true, true, true, true, false, false, false, false, false] rfl rfl (any_of HT_.out (by kernel_rfl)) (fun _ _ _ h => h) (Or.inr ⟨by rfl, rfl⟩) ?_ ?_
              rotate_left
              · simp only [Act.put, List.setIfInBounds_toArray, List.set_cons_zero, List.set_cons_succ, i64_w, i32_w]
                rfl
              refine pure_ (i := 23) (N := some 135) (v := undef) (a' := ?_) #[true, true, true, true, true, true, true, true, true, true, true, true, true, true, true, true, true, true, true, true, true, true, true, true, false, false, false, false] rfl rfl (any_of HT_.out (by kernel_rfl)) (fun _ _ _ h => h) (Or.inr ⟨by rfl, rfl⟩) ?_ ?_
              rotate_left
              · simp only [Act.put, List.setIfInBounds_toArray, List.set_cons_zero, List.set_cons_succ, i64_w, i32_w]
                rfl
              refine pure_ (i := 24) (N := some 136) (v := undef) (a' := ?_) #[true, true, true, true, true, true, true, true, true, true, true, true, true, true, true, true, true, true, true, true, true, true, true, true, true, false, false, false] rfl rfl (any_of HT_.out (by kernel_rfl)) (fun _ _ _ h => h) (Or.inr ⟨by rfl, rfl⟩) ?_ ?_
              rotate_left
              · simp only [Act.put, List.setIfInBounds_toArray, List.set_cons_zero, List.set_cons_succ, i64_w, i32_w]
                rfl
              refine pure_ (i := 25) (N := some 137) (v := undef) (a' := ?_) #[true, true, true, true, true, true, true, true, true, true, true, true, true, true, true, true, true, true, true, true, true, true, true, true, true, true, false, false] rfl rfl (any_of HT_.out (by kernel_rfl)) (fun _ _ _ h => h) (Or.inr ⟨by rfl, rfl⟩) ?_ ?_
              rotate_left
              · simp only [Act.put, List.setIfInBounds_toArray, List.set_cons_zero, List.set_cons_succ, i64_w, i32_w]
                rfl
              refine pure_ (i := 26) (N := some 138) (v := undef) (a' := ?_) #[true, true, true, true, true, true, true, true, true, true, true, true, true, true, true, true, true, true, true, true, true, true, true, true, true, true, true, false] rfl rfl (any_of HT_.out (by kernel_rfl)) (fun _ _ _ h => h) (Or.inr ⟨by rfl, rfl⟩) ?_ ?_
              rotate_left
              · simp only [Act.put, List.setIfInBounds_toArray, List.set_cons_zero, List.set_cons_succ, i64_w, i32_w]
                rfl
              refine pure_ (i := 27) (N := some 139) (v := ?_) (a' := ?_) #[true, true, true, true, true, true, true, true, true, true, true, true, true, true, true, true, true, true, true, true, true, true, true, true, true, true, true, true] rfl rfl (any_of HT_.out (by kernel_rfl)) (fun _ _ _ h => h) (Or.inl ⟨by rfl, ?_⟩) ?_ ?_
              rotate_left
              · intro w'
                go_simp
                with_reducible rfl
              rotate_left
              · simp only [Act.put, List.setIfInBounds_toArray, List.set_cons_zero, List.set_cons_succ, i64_w, i32_w]
                rfl
              refine done_ (done_of HT_.out (by kernel_rfl)) ?_
              try go_wp2
              go_meet
              case rel => exact ⟨true, rfl, ⟨fun h => by cases h⟩, HIP2, HO3b, HO4b⟩
            | true =>
              have HTY := Aside0.mk (HTAB.out rfl)
              by_cases h6 : (1099511627776 : Int) < x.f6
              · skip
                have t6 : decide ((1099511627776 : Int) < x.f6) = true := decide_eq_true h6
                refine start_ (n := 28) (S := (fun W => W.cell? ⟨g, 0, none⟩ = some (.int .i64 x.f0.f0) ∧ W.cell? ⟨g, 1, none⟩ = some (.int .i64 x.f0.f1) ∧ W.cell? ⟨g, 2, none⟩ = some (.slice A5 x.f0.f2.length c5) ∧ W.cell? ⟨g, 3, none⟩ = some (.int .i64 x.f1) ∧ W.cell? ⟨g, 4, none⟩ = some (.int .i64 x.f2) ∧ W.cell? ⟨g, 5, none⟩ = some (.int .i64 x.f3) ∧ W.cell? ⟨g, 6, none⟩ = some (.string x.f4) ∧ W.cell? ⟨g, 7, none⟩ = some (.string x.f5) ∧ W.cell? ⟨g, 8, none⟩ = some (.int .i64 x.f6) ∧ W.cell? ⟨w.heap.size, 1, none⟩ = some (.int .i64 1099511627776) ∧ W.cell? ⟨w.heap.size, 3, none⟩ = some (.slice (some ad) l.length c) ∧ Aside0 (IP w g (verC Al cl (some ad) c l) (tabC x A5 c5) W))) (ds := []) #[false, false, false, false, false, false, false, false, false, false, false, false, false, false, false, false, false, false, false, false, false, false, false, false, false, false, false, false] (by kernel_rfl) rfl rfl (IP.s16 HIPd.out) (fun hHeld => ?_); refine with_tabW is8.tab16 is8.bits16 (fun HT_ HW_ => ?_)
                refine take_ (i := 0) (N := some 112) (v := ?_) (a' := ?_) #[true, false, false, false, false, false, false, false, false, false, false, false, false, false, false, false, false, false, false, false, false, false, false, false, false, false, false, false] rfl rfl (take_ofW HT_.out HW_.out (by kernel_rfl)) (fun _ _ _ h => h) (Or.inl ⟨by rfl, ?_⟩) hHeld ?_ ?_
                rotate_left
                · rintro w' ⟨s0, s1, s2, s3, s4, s5, s6, s7, s8, s9, s10, s11⟩
                  go_simp
                  with_reducible rfl
                rotate_left
                · simp only [Act.put, List.setIfInBounds_toArray, List.set_cons_zero, List.set_cons_succ, i64_w, i32_w]
                  rfl
                refine one_ (i := 1) (N := some 113) #[true, true, false, false, false, false, false, false, false, false, false, false, false, false, false, false, false, false, false, false, false, false, false, false, false, false, false, false] rfl rfl (one_of HT_.out (by kernel_rfl)) (by decide) (fun K hK => ?_)
                refine goes_ Try.func26 (by kernel_rfl) rfl #[.agg #[.int .i64 x.f0.f0, .int .i64 x.f0.f1, .slice A5 x.f0.f2.length c5, .int .i64 x.f1, .int .i64 x.f2, .int .i64 x.f3, .string x.f4, .string x.f5, .int .i64 x.f6]] (by rfl) rfl rfl (by (try simp only [List.map_toArray, List.map_cons, List.map_nil]); first | done | rfl | (simp only [List.length_drop, List.length_take]; rfl)) ?_
                with_reducible refine (HIT.out _ ?side).mono ?_
                (case side => exact HCX.out _ HIPd.out)
                rintro e w26 ⟨rfl, hB26⟩
                refine ⟨_, rfl, ?_⟩
                have HIP2 := Aside0.mk (IP.to HIPd.out hB26)
                have HO3b := Aside0.mk (Kd.R_below HO3d.out hB26)
                have HO4b := Aside0.mk (Kd.R_below HO4d.out hB26)
                clear hB26
                refine hK.out _ _ (IP.s16 HIP2.out) (fun hHeld => ?_)
                clear hK K
                refine norm_ (a' := ?_) ?_ ?_
                rotate_left
                · show Act.put _ (some 113) _ = _
                  simp only [Act.put, List.setIfInBounds_toArray, List.set_cons_zero, List.set_cons_succ, i64_w, i32_w]
                  rfl
                refine pure_ (i := 2) (N := some 114) (v := ?_) (a' := ?_) #[true, true, true, false, false, false, false, false, false, false, false, false, false, false, false, false, false, false, false, false, false, false, false, false, false, false, false, false] rfl rfl (any_of HT_.out (by kernel_rfl)) (fun _ _ _ h => h) (Or.inl ⟨by rfl, ?_⟩) ?_ ?_
                rotate_left
                · intro w'
                  go_simp
                  with_reducible rfl
                rotate_left
                · simp only [Act.put, List.setIfInBounds_toArray, List.set_cons_zero, List.set_cons_succ, i64_w, i32_w]
                  rfl
                refine pure_ (i := 3) (N := some 115) (v := ?_) (a' := ?_) #[true, true, true, true, false, false, false, false, false, false, false, false, false, false, false, false, false, false, false, false, false, false, false, false, false, false, false, false] rfl rfl (any_of HT_.out (by kernel_rfl)) (fun _ _ _ h => h) (Or.inl ⟨by rfl, ?_⟩) ?_ ?_
                rotate_left
                · intro w'
                  go_simp
                  with_reducible rfl
                rotate_left
                · simp only [Act.put, List.setIfInBounds_toArray, List.set_cons_zero, List.set_cons_succ, i64_w, i32_w]
                  rfl
                refine pure_ (i := 4) (N := some 116) (v := ?_) (a' := ?_) #[true, true, true, true, true, false, false, false, false, false, false, false, false, false, false, false, false, false, false, false, false, false, false, false, false, false, false, false] rfl rfl (any_of HT_.out (by kernel_rfl)) (fun _ _ _ h => h) (Or.inl ⟨by rfl, ?_⟩) ?_ ?_
                rotate_left
                · intro w'
                  go_simp
                  with_reducible rfl
                rotate_left
                · simp only [Act.put, List.setIfInBounds_toArray, List.set_cons_zero, List.set_cons_succ, i64_w, i32_w]
                  rfl
                refine pure_ (i := 6) (N := some 118) (v := ?_) (a' := ?_) #[true, true, true, true, true, false, true, false, false, false, false, false, false, false, false, false, false, false, false, false, false, false, false, false, false, false, false, false] rfl rfl (any_of HT_.out (by kernel_rfl)) (fun _ _ _ h => h) (Or.inl ⟨by rfl, ?_⟩) ?_ ?_
                rotate_left
                · intro w'
                  go_simp
                  with_reducible rfl
                rotate_left
                · simp only [Act.put, List.setIfInBounds_toArray, List.set_cons_zero, List.set_cons_succ, i64_w, i32_w]
                  rfl
                refine take_ (i := 5) (N := some 117) (v := ?_) (a' := ?_) #[true, true, true, true, true, true, true, false, false, false, false, false, false, false, false, false, false, false, false, false, false, false, false, false, false, false, false, false] rfl rfl (take_ofW HT_.out HW_.out (by kernel_rfl)) (fun _ _ _ h => h) (Or.inl ⟨by rfl, ?_⟩) hHeld ?_ ?_
                rotate_left
                · rintro w' ⟨s0, s1, s2, s3, s4, s5, s6, s7, s8, s9, s10, s11⟩
                  go_simp
                  with_reducible rfl
                rotate_left
                · simp only [Act.put, List.setIfInBounds_toArray, List.set_cons_zero, List.set_cons_succ, i64_w, i32_w]
                  rfl
                refine take_ (i := 7) (N := some 119) (v := ?_) (a' := ?_) #[true, true, true, true, true, true, true, true, false, false, false, false, false, false, false, false, false, false, false, false, false, false, false, false, false, false, false, false] rfl rfl (take_ofW HT_.out HW_.out (by kernel_rfl)) (fun _ _ _ h => h) (Or.inl ⟨by rfl, ?_⟩) hHeld ?_ ?_
                rotate_left
                · rintro w' ⟨s0, s1, s2, s3, s4, s5, s6, s7, s8, s9, s10, s11⟩
                  go_simp
                  with_reducible rfl
                rotate_left
                · simp only [Act.put, List.setIfInBounds_toArray, List.set_cons_zero, List.set_cons_succ, i64_w, i32_w]
                  rfl
                refine pure_ (i := 8) (N := some 120) (v := ?_) (a' := ?_) #[true, true, true, true, true, true, true, true, true, false, false, false, false, false, false, false, false, false, false, false, false, false, false, false, false, false, false, false] rfl rfl (any_of HT_.out (by kernel_rfl)) (fun _ _ _ h => h) (Or.inl ⟨by rfl, ?_⟩) ?_ ?_
                rotate_left
                · intro w'
                  go_simp
                  with_reducible rfl
                rotate_left
                · simp only [Act.put, List.setIfInBounds_toArray, List.set_cons_zero, List.set_cons_succ, i64_w, i32_w]
                  rfl
                (first | rw [t6] | (simp only [i64_w, i32_w]; rw [t6]) | skip)
                refine pure_ (i := 9) (N := some 121) (v := ?_) (a' := ?_) #[true, true, true, true, true, true, true, true, true, true, false, false, false, false, false, false, false, false, false, false, false, false, false, false, false, false, false, false] rfl rfl (any_of HT_.out (by kernel_rfl)) (fun _ _ _ h => h) (Or.inl ⟨by rfl, ?_⟩) ?_ ?_
                rotate_left
                · intro w'
                  go_simp
                  with_reducible rfl
                rotate_left
                · simp only [Act.put, List.setIfInBounds_toArray, List.set_cons_zero, List.set_cons_succ, i64_w, i32_w]
                  rfl
                refine pure_ (i := 10) (N := some 122) (v := ?_) (a' := ?_) #[true, true, true, true, true, true, true, true, true, true, true, false, false, false, false, false, false, false, false, false, false, false, false, false, false, false, false, false] rfl rfl (any_of HT_.out (by kernel_rfl)) (fun _ _ _ h => h) (Or.inl ⟨by rfl, ?_⟩) ?_ ?_
                rotate_left
                · intro w'
                  go_simp
                  with_reducible rfl
                rotate_left
                · simp only [Act.put, List.setIfInBounds_toArray, List.set_cons_zero, List.set_cons_succ, i64_w, i32_w]
                  rfl
                refine pure_ (i := 11) (N := some 123) (v := undef) (a' := ?_) #[true, true, true, true, true, true, true, true, true, true, true, true, false, false, false, false, false, false, false, false, false, false, false, false, false, false, false, false] rfl rfl (any_of HT_.out (by kernel_rfl)) (fun _ _ _ h => h) (Or.inr ⟨by rfl, rfl⟩) ?_ ?_
                rotate_left
                · simp only [Act.put, List.setIfInBounds_toArray, List.set_cons_zero, List.set_cons_succ, i64_w, i32_w]
                  rfl
                refine pure_ (i := 12) (N := some 124) (v := undef) (a' := ?_) #[true, true, true, true, true, true, true, true, true, true, true, true, true, false, false, false, false, false, false, false, false, false, false, false, false, false, false, false] rfl rfl (any_of HT_.out (by kernel_rfl)) (fun _ _ _ h => h) (Or.inr ⟨by rfl, rfl⟩) ?_ ?_
                rotate_left
                · simp only [Act.put, List.setIfInBounds_toArray, List.set_cons_zero, List.set_cons_succ, i64_w, i32_w]
                  rfl
                refine pure_ (i := 13) (N := some 125) (v := undef) (a' := ?_) #[true, true, true, true, true, true, true, true, true, true, true, true, true, true, false, false, false, false, false, false, false, false, false, false, false, false, false, false] rfl rfl (any_of HT_.out (by kernel_rfl)) (fun _ _ _ h => h) (Or.inr ⟨by rfl, rfl⟩) ?_ ?_
                rotate_left
                · simp only [Act.put, List.setIfInBounds_toArray, List.set_cons_zero, List.set_cons_succ, i64_w, i32_w]
                  rfl
                refine pure_ (i := 14) (N := some 126) (v := undef) (a' := ?_) #[true, true, true, true, true, true, true, true, true, true, true, true, true, true, true, false, false, false, false, false, false, false, false, false, false, false, false, false] rfl rfl (any_of HT_.out (by kernel_rfl)) (fun _ _ _ h => h) (Or.inr ⟨by rfl, rfl⟩) ?_ ?_
                rotate_left
                · simp only [Act.put, List.setIfInBounds_toArray, List.set_cons_zero, List.set_cons_succ, i64_w, i32_w]
                  rfl
                refine pure_ (i := 15) (N := some 127) (v := undef) (a' := ?_) #[true, true, true, true, true, true, true, true, true, true, true, true, true, true, true, true, false, false, false, false, false, false, false, false, false, false, false, false] rfl rfl (any_of HT_.out (by kernel_rfl)) (fun _ _ _ h => h) (Or.inr ⟨by rfl, rfl⟩) ?_ ?_
                rotate_left
                · simp only [Act.put, List.setIfInBounds_toArray, List.set_cons_zero, List.set_cons_succ, i64_w, i32_w]
                  rfl
                refine pure_ (i := 16) (N := some 128) (v := undef) (a' := ?_) #[true, true, true, true, true, true, true, true, true, true, true, true, true, true, true, true, true, false, false, false, false, false, false, false, false, false, false, false] rfl rfl (any_of HT_.out (by kernel_rfl)) (fun _ _ _ h => h) (Or.inr ⟨by rfl, rfl⟩) ?_ ?_
                rotate_left
                · simp only [Act.put, List.setIfInBounds_toArray, List.set_cons_zero, List.set_cons_succ, i64_w, i32_w]
                  rfl
                refine pure_ (i := 17) (N := some 129) (v := undef) (a' := ?_) #[true, true, true, true, true, true, true, true, true, true, true, true, true, true, true, true, true, true, false, false, false, false, false, false, false, false, false, false] rfl rfl (any_of HT_.out (by kernel_rfl)) (fun _ _ _ h => h) (Or.inr ⟨by rfl, rfl⟩) ?_ ?_
                rotate_left
                · simp only [Act.put, List.setIfInBounds_toArray, List.set_cons_zero, List.set_cons_succ, i64_w, i32_w]
                  rfl
                refine pure_ (i := 18) (N := some 130) (v := undef) (a' := ?_) #[true, true, true, true, true, true, true, true, true, true, true, true, true, true, true, true, true, true, true, false, false, false, false, false, false, false, false, false] rfl rfl (any_of HT_.out (by kernel_rfl)) (fun _ _ _ h => h) (Or.inr ⟨by rfl, rfl⟩) ?_ ?_
                rotate_left
                · simp only [Act.put, List.setIfInBounds_toArray, List.set_cons_zero, List.set_cons_succ, i64_w, i32_w]
                  rfl
                refine pure_ (i := 19) (N := some 131) (v := undef) (a' := ?_) #[true, true, true, true, true, true, true, true, true, true, true, true, true, true, true, true, true, true, true, true, false, false, false, false, false, false, false, false] rfl rfl (any_of HT_.out (by kernel_rfl)) (fun _ _ _ h => h) (Or.inr ⟨by rfl, rfl⟩) ?_ ?_
                rotate_left
                · simp only [Act.put, List.setIfInBounds_toArray, List.set_cons_zero, List.set_cons_succ, i64_w, i32_w]
                  rfl
                refine pure_ (i := 20) (N := some 132) (v := undef) (a' := ?_) #[true, true, true, true, true, true, true, true, true, true, true, true, true, true, true, true, true, true, true, true, true, false, false, false, false, false, false, false] rfl rfl (any_of HT_.out (by kernel_rfl)) (fun _ _ _ h => h) (Or.inr ⟨by rfl, rfl⟩) ?_ ?_
                rotate_left
                · simp only [Act.put, List.setIfInBounds_toArray, List.set_cons_zero, List.set_cons_succ, i64_w, i32_w]
                  rfl
                refine pure_ (i := 21) (N := some 133) (v := undef) (a' := ?_) #[true, true, true, true, true, true, true, true, true, true, true, true, true, true, true, true, true, true, true, true, true, true, false, false, false, false, false, false] rfl rfl (any_of HT_.out (by kernel_rfl)) (fun _ _ _ h => h) (Or.inr ⟨by rfl, rfl⟩) ?_ ?_
                rotate_left
                · simp only [Act.put, List.setIfInBounds_toArray, List.set_cons_zero, List.set_cons_succ, i64_w, i32_w]
                  rfl
                refine pure_ (i := 22) (N := some 134) (v := undef) (a' := ?_) #[true, true, true, true, true, true, true, true, true, true, true, true, true, true, true, true, true, true, true, true, true, true, true, false, false, false, false, false] rfl rfl (any_of HT_.out (by kernel_rfl)) (fun _ _ _ h => h) (Or.inr ⟨by rfl, rfl⟩) ?_ ?_
                rotate_left
                · simp only [Act.put, List.setIfInBounds_toArray, List.set_cons_zero, List.set_cons_succ, i64_w, i32_w]
                  rfl
                refine pure_ (i := 23) (N := some 135) (v := undef) (a' := ?_) #[true, true, true, true, true, true, true, true, true, true, true, true, true, true, true, true, true, true, true, true, true, true, true, true, false, false, false, false] rfl rfl (any_of HT_.out (by kernel_rfl)) (fun _ _ _ h => h) (Or.inr ⟨by rfl, rfl⟩) ?_ ?_
                rotate_left
                · simp only [Act.put, List.setIfInBounds_toArray, List.set_cons_zero, List.set_cons_succ, i64_w, i32_w]
                  rfl
                refine pure_ (i := 24) (N := some 136) (v := undef) (a' := ?_) #[true, true, true, true, true, true, true, true, true, true, true, true, true, true, true, true, true, true, true, true, true, true, true, true, true, false, false, false] rfl rfl (any_of HT_.out (by kernel_rfl)) (fun _ _ _ h => h) (Or.inr ⟨by rfl, rfl⟩) ?_ ?_
                rotate_left
                · simp only [Act.put, List.setIfInBounds_toArray, List.set_cons_zero, List.set_cons_succ, i64_w, i32_w]
                  rfl
                refine pure_ (i := 25) (N := some 137) (v := undef) (a' := ?_) #[true, true, true, true, true, true, true, true, true, true, true, true, true, true, true, true, true, true, true, true, true, true, true, true, true, true, false, false] rfl rfl (any_of HT_.out (by kernel_rfl)) (fun _ _ _ h => h) (Or.inr ⟨by rfl, rfl⟩) ?_ ?_
                rotate_left
                · simp only [Act.put, List.setIfInBounds_toArray, List.set_cons_zero, List.set_cons_succ, i64_w, i32_w]
                  rfl
                refine pure_ (i := 26) (N := some 138) (v := undef) (a' := ?_) #[true, true, true, true, true, true, true, true, true, true, true, true, true, true, true, true, true, true, true, true, true, true, true, true, true, true, true, false] rfl rfl (any_of HT_.out (by kernel_rfl)) (fun _ _ _ h => h) (Or.inr ⟨by rfl, rfl⟩) ?_ ?_
                rotate_left
                · simp only [Act.put, List.setIfInBounds_toArray, List.set_cons_zero, List.set_cons_succ, i64_w, i32_w]
                  rfl
                refine pure_ (i := 27) (N := some 139) (v := ?_) (a' := ?_) #[true, true, true, true, true, true, true, true, true, true, true, true, true, true, true, true, true, true, true, true, true, true, true, true, true, true, true, true] rfl rfl (any_of HT_.out (by kernel_rfl)) (fun _ _ _ h => h) (Or.inl ⟨by rfl, ?_⟩) ?_ ?_
                rotate_left
                · intro w'
                  go_simp
                  with_reducible rfl
                rotate_left
                · simp only [Act.put, List.setIfInBounds_toArray, List.set_cons_zero, List.set_cons_succ, i64_w, i32_w]
                  rfl
                refine done_ (done_of HT_.out (by kernel_rfl)) ?_
                try go_wp2
                go_meet
                case rel => exact ⟨true, rfl, ⟨fun h => by cases h⟩, HIP2, HO3b, HO4b⟩
              · by_cases h0 : i = 0
                · skip
                  have t6 : decide ((1099511627776 : Int) < x.f6) = false := decide_eq_false h6
                  subst h0
                  have t12 : decide ((0 : Int) < ((0 : Nat) : Int)) = false := by decide
                  refine start_ (n := 28) (S := (fun W => W.cell? ⟨g, 0, none⟩ = some (.int .i64 x.f0.f0) ∧ W.cell? ⟨g, 1, none⟩ = some (.int .i64 x.f0.f1) ∧ W.cell? ⟨g, 2, none⟩ = some (.slice A5 x.f0.f2.length c5) ∧ W.cell? ⟨g, 3, none⟩ = some (.int .i64 x.f1) ∧ W.cell? ⟨g, 4, none⟩ = some (.int .i64 x.f2) ∧ W.cell? ⟨g, 5, none⟩ = some (.int .i64 x.f3) ∧ W.cell? ⟨g, 6, none⟩ = some (.string x.f4) ∧ W.cell? ⟨g, 7, none⟩ = some (.string x.f5) ∧ W.cell? ⟨g, 8, none⟩ = some (.int .i64 x.f6) ∧ W.cell? ⟨w.heap.size, 1, none⟩ = some (.int .i64 1099511627776) ∧ W.cell? ⟨w.heap.size, 3, none⟩ = some (.slice (some ad) l.length c) ∧ Aside0 (IP w g (verC Al cl (some ad) c l) (tabC x A5 c5) W))) (ds := []) #[false, false, false, false, false, false, false, false, false, false, false, false, false, false, false, false, false, false, false, false, false, false, false, false, false, false, false, false] (by kernel_rfl) rfl rfl (IP.s16 HIPd.out) (fun hHeld => ?_); refine with_tabW is8.tab16 is8.bits16 (fun HT_ HW_ => ?_)
                  refine take_ (i := 0) (N := some 112) (v := ?_) (a' := ?_) #[true, false, false, false, false, false, false, false, false, false, false, false, false, false, false, false, false, false, false, false, false, false, false, false, false, false, false, false] rfl rfl (take_ofW HT_.out HW_.out (by kernel_rfl)) (fun _ _ _ h => h) (Or.inl ⟨by rfl, ?_⟩) hHeld ?_ ?_
                  rotate_left
                  · rintro w' ⟨s0, s1, s2, s3, s4, s5, s6, s7, s8, s9, s10, s11⟩
                    go_simp
                    with_reducible rfl
                  rotate_left
                  · simp only [Act.put, List.setIfInBounds_toArray, List.set_cons_zero, List.set_cons_succ, i64_w, i32_w]
                    rfl
                  refine one_ (i := 1) (N := some 113) #[true, true, false, false, false, false, false, false, false, false, false, false, false, false, false, false, false, false, false, false, false, false, false, false, false, false, false, false] rfl rfl (one_of HT_.out (by kernel_rfl)) (by decide) (fun K hK => ?_)
                  refine goes_ Try.func26 (by kernel_rfl) rfl #[.agg #[.int .i64 x.f0.f0, .int .i64 x.f0.f1, .slice A5 x.f0.f2.length c5, .int .i64 x.f1, .int .i64 x.f2, .int .i64 x.f3, .string x.f4, .string x.f5, .int .i64 x.f6]] (by rfl) rfl rfl (by (try simp only [List.map_toArray, List.map_cons, List.map_nil]); first | done | rfl | (simp only [List.length_drop, List.length_take]; rfl)) ?_
                  with_reducible refine (HIT.out _ ?side).mono ?_
                  (case side => exact HCX.out _ HIPd.out)
                  rintro e w26 ⟨rfl, hB26⟩
                  refine ⟨_, rfl, ?_⟩
                  have HIP2 := Aside0.mk (IP.to HIPd.out hB26)
                  have HO3b := Aside0.mk (Kd.R_below HO3d.out hB26)
                  have HO4b := Aside0.mk (Kd.R_below HO4d.out hB26)
                  clear hB26
                  refine hK.out _ _ (IP.s16 HIP2.out) (fun hHeld => ?_)
                  clear hK K
                  refine norm_ (a' := ?_) ?_ ?_
                  rotate_left
                  · show Act.put _ (some 113) _ = _
                    simp only [Act.put, List.setIfInBounds_toArray, List.set_cons_zero, List.set_cons_succ, i64_w, i32_w]
                    rfl
                  refine pure_ (i := 2) (N := some 114) (v := ?_) (a' := ?_) #[true, true, true, false, false, false, false, false, false, false, false, false, false, false, false, false, false, false, false, false, false, false, false, false, false, false, false, false] rfl rfl (any_of HT_.out (by kernel_rfl)) (fun _ _ _ h => h) (Or.inl ⟨by rfl, ?_⟩) ?_ ?_
                  rotate_left
                  · intro w'
                    go_simp
                    with_reducible rfl
                  rotate_left
                  · simp only [Act.put, List.setIfInBounds_toArray, List.set_cons_zero, List.set_cons_succ, i64_w, i32_w]
                    rfl
                  refine pure_ (i := 3) (N := some 115) (v := ?_) (a' := ?_) #[true, true, true, true, false, false, false, false, false, false, false, false, false, false, false, false, false, false, false, false, false, false, false, false, false, false, false, false] rfl rfl (any_of HT_.out (by kernel_rfl)) (fun _ _ _ h => h) (Or.inl ⟨by rfl, ?_⟩) ?_ ?_
                  rotate_left
                  · intro w'
                    go_simp
                    with_reducible rfl
                  rotate_left
                  · simp only [Act.put, List.setIfInBounds_toArray, List.set_cons_zero, List.set_cons_succ, i64_w, i32_w]
                    rfl
                  refine pure_ (i := 4) (N := some 116) (v := ?_) (a' := ?_) #[true, true, true, true, true, false, false, false, false, false, false, false, false, false, false, false, false, false, false, false, false, false, false, false, false, false, false, false] rfl rfl (any_of HT_.out (by kernel_rfl)) (fun _ _ _ h => h) (Or.inl ⟨by rfl, ?_⟩) ?_ ?_
                  rotate_left
                  · intro w'
                    go_simp
                    with_reducible rfl
                  rotate_left
                  · simp only [Act.put, List.setIfInBounds_toArray, List.set_cons_zero, List.set_cons_succ, i64_w, i32_w]
                    rfl
                  refine pure_ (i := 6) (N := some 118) (v := ?_) (a' := ?_) #[true, true, true, true, true, false, true, false, false, false, false, false, false, false, false, false, false, false, false, false, false, false, false, false, false, false, false, false] rfl rfl (any_of HT_.out (by kernel_rfl)) (fun _ _ _ h => h) (Or.inl ⟨by rfl, ?_⟩) ?_ ?_
                  rotate_left
                  · intro w'
                    go_simp
                    with_reducible rfl
                  rotate_left
                  · simp only [Act.put, List.setIfInBounds_toArray, List.set_cons_zero, List.set_cons_succ, i64_w, i32_w]
                    rfl
                  refine take_ (i := 5) (N := some 117) (v := ?_) (a' := ?_) #[true, true, true, true, true, true, true, false, false, false, false, false, false, false, false, false, false, false, false, false, false, false, false, false, false, false, false, false] rfl rfl (take_ofW HT_.out HW_.out (by kernel_rfl)) (fun _ _ _ h => h) (Or.inl ⟨by rfl, ?_⟩) hHeld ?_ ?_
                  rotate_left
                  · rintro w' ⟨s0, s1, s2, s3, s4, s5, s6, s7, s8, s9, s10, s11⟩
                    go_simp
                    with_reducible rfl
                  rotate_left
                  · simp only [Act.put, List.setIfInBounds_toArray, List.set_cons_zero, List.set_cons_succ, i64_w, i32_w]
                    rfl
                  refine take_ (i := 7) (N := some 119) (v := ?_) (a' := ?_) #[true, true, true, true, true, true, true, true, false, false, false, false, false, false, false, false, false, false, false, false, false, false, false, false, false, false, false, false] rfl rfl (take_ofW HT_.out HW_.out (by kernel_rfl)) (fun _ _ _ h => h) (Or.inl ⟨by rfl, ?_⟩) hHeld ?_ ?_
                  rotate_left
                  · rintro w' ⟨s0, s1, s2, s3, s4, s5, s6, s7, s8, s9, s10, s11⟩
                    go_simp
                    with_reducible rfl
                  rotate_left
                  · simp only [Act.put, List.setIfInBounds_toArray, List.set_cons_zero, List.set_cons_succ, i64_w, i32_w]
                    rfl
                  refine pure_ (i := 8) (N := some 120) (v := ?_) (a' := ?_) #[true, true, true, true, true, true, true, true, true, false, false, false, false, false, false, false, false, false, false, false, false, false, false, false, false, false, false, false] rfl rfl (any_of HT_.out (by kernel_rfl)) (fun _ _ _ h => h) (Or.inl ⟨by rfl, ?_⟩) ?_ ?_
                  rotate_left
                  · intro w'
                    go_simp
                    with_reducible rfl
                  rotate_left
                  · simp only [Act.put, List.setIfInBounds_toArray, List.set_cons_zero, List.set_cons_succ, i64_w, i32_w]
                    rfl
                  (first | rw [t6] | (simp only [i64_w, i32_w]; rw [t6]) | skip)
                  refine pure_ (i := 9) (N := some 121) (v := ?_) (a' := ?_) #[true, true, true, true, true, true, true, true, true, true, false, false, false, false, false, false, false, false, false, false, false, false, false, false, false, false, false, false] rfl rfl (any_of HT_.out (by kernel_rfl)) (fun _ _ _ h => h) (Or.inl ⟨by rfl, ?_⟩) ?_ ?_
                  rotate_left
                  · intro w'
                    go_simp
                    with_reducible rfl
                  rotate_left
                  · simp only [Act.put, List.setIfInBounds_toArray, List.set_cons_zero, List.set_cons_succ, i64_w, i32_w]
                    rfl
                  refine pure_ (i := 10) (N := some 122) (v := ?_) (a' := ?_) #[true, true, true, true, true, true, true, true, true, true, true, false, false, false, false, false, false, false, false, false, false, false, false, false, false, false, false, false] rfl rfl (any_of HT_.out (by kernel_rfl)) (fun _ _ _ h => h) (Or.inl ⟨by rfl, ?_⟩) ?_ ?_
                  rotate_left
                  · intro w'
                    go_simp
                    with_reducible rfl
                  rotate_left
                  · simp only [Act.put, List.setIfInBounds_toArray, List.set_cons_zero, List.set_cons_succ, i64_w, i32_w]
                    rfl
                  refine pure_ (i := 11) (N := some 123) (v := ?_) (a' := ?_) #[true, true, true, true, true, true, true, true, true, true, true, true, false, false, false, false, false, false, false, false, false, false, false, false, false, false, false, false] rfl rfl (any_of HT_.out (by kernel_rfl)) (fun _ _ _ h => h) (Or.inl ⟨by rfl, ?_⟩) ?_ ?_
                  rotate_left
                  · intro w'
                    go_simp
                    with_reducible rfl
                  rotate_left
                  · simp only [Act.put, List.setIfInBounds_toArray, List.set_cons_zero, List.set_cons_succ, i64_w, i32_w]
                    rfl
                  refine pure_ (i := 12) (N := some 124) (v := ?_) (a' := ?_) #[true, true, true, true, true, true, true, true, true, true, true, true, true, false, false, false, false, false, false, false, false, false, false, false, false, false, false, false] rfl rfl (any_of HT_.out (by kernel_rfl)) (fun _ _ _ h => h) (Or.inl ⟨by rfl, ?_⟩) ?_ ?_
                  rotate_left
                  · intro w'
                    go_simp
                    with_reducible rfl
                  rotate_left
                  · simp only [Act.put, List.setIfInBounds_toArray, List.set_cons_zero, List.set_cons_succ, i64_w, i32_w]
                    rfl
                  (first | rw [t12] | (simp only [i64_w, i32_w]; rw [t12]) | skip)
                  refine pure_ (i := 13) (N := some 125) (v := ?_) (a' := ?_) #[true, true, true, true, true, true, true, true, true, true, true, true, true, true, false, false, false, false, false, false, false, false, false, false, false, false, false, false] rfl rfl (any_of HT_.out (by kernel_rfl)) (fun _ _ _ h => h) (Or.inl ⟨by rfl, ?_⟩) ?_ ?_
                  rotate_left
                  · intro w'
                    go_simp
                    with_reducible rfl
                  rotate_left
                  · simp only [Act.put, List.setIfInBounds_toArray, List.set_cons_zero, List.set_cons_succ, i64_w, i32_w]
                    rfl
                  refine pure_ (i := 14) (N := some 126) (v := undef) (a' := ?_) #[true, true, true, true, true, true, true, true, true, true, true, true, true, true, true, false, false, false, false, false, false, false, false, false, false, false, false, false] rfl rfl (any_of HT_.out (by kernel_rfl)) (fun _ _ _ h => h) (Or.inr ⟨by rfl, rfl⟩) ?_ ?_
                  rotate_left
                  · simp only [Act.put, List.setIfInBounds_toArray, List.set_cons_zero, List.set_cons_succ, i64_w, i32_w]
                    rfl
                  refine pure_ (i := 15) (N := some 127) (v := undef) (a' := ?_) #[true, true, true, true, true, true, true, true, true, true, true, true, true, true, true, true, false, false, false, false, false, false, false, false, false, false, false, false] rfl rfl (any_of HT_.out (by kernel_rfl)) (fun _ _ _ h => h) (Or.inr ⟨by rfl, rfl⟩) ?_ ?_
                  rotate_left
                  · simp only [Act.put, List.setIfInBounds_toArray, List.set_cons_zero, List.set_cons_succ, i64_w, i32_w]
                    rfl
                  refine pure_ (i := 16) (N := some 128) (v := undef) (a' := ?_) #[true, true, true, true, true, true, true, true, true, true, true, true, true, true, true, true, true, false, false, false, false, false, false, false, false, false, false, false] rfl rfl (any_of HT_.out (by kernel_rfl)) (fun _ _ _ h => h) (Or.inr ⟨by rfl, rfl⟩) ?_ ?_
                  rotate_left
                  · simp only [Act.put, List.setIfInBounds_toArray, List.set_cons_zero, List.set_cons_succ, i64_w, i32_w]
                    rfl
                  refine pure_ (i := 17) (N := some 129) (v := undef) (a' := ?_) #[true, true, true, true, true, true, true, true, true, true, true, true, true, true, true, true, true, true, false, false, false, false, false, false, false, false, false, false] rfl rfl (any_of HT_.out (by kernel_rfl)) (fun _ _ _ h => h) (Or.inr ⟨by rfl, rfl⟩) ?_ ?_
                  rotate_left
                  · simp only [Act.put, List.setIfInBounds_toArray, List.set_cons_zero, List.set_cons_succ, i64_w, i32_w]
                    rfl
                  refine pure_ (i := 18) (N := some 130) (v := undef) (a' := ?_) #[true, true, true, true, true, true, true, true, true, true, true, true, true, true, true, true, true, true, true, false, false, false, false, false, false, false, false, false] rfl rfl (any_of HT_.out (by kernel_rfl)) (fun _ _ _ h => h) (Or.inr ⟨by rfl, rfl⟩) ?_ ?_
                  rotate_left
                  · simp only [Act.put, List.setIfInBounds_toArray, List.set_cons_zero, List.set_cons_succ, i64_w, i32_w]
                    rfl
                  refine pure_ (i := 19) (N := some 131) (v := undef) (a' := ?_) #[true, true, true, true, true, true, true, true, true, true, true, true, true, true, true, true, true, true, true, true, false, false, false, false, false, false, false, false] rfl rfl (any_of HT_.out (by kernel_rfl)) (fun _ _ _ h => h) (Or.inr ⟨by rfl, rfl⟩) ?_ ?_
                  rotate_left
                  · simp only [Act.put, List.setIfInBounds_toArray, List.set_cons_zero, List.set_cons_succ, i64_w, i32_w]
                    rfl
                  refine pure_ (i := 20) (N := some 132) (v := undef) (a' := ?_) #[true, true, true, true, true, true, true, true, true, true, true, true, true, true, true, true, true, true, true, true, true, false, false, false, false, false, false, false] rfl rfl (any_of HT_.out (by kernel_rfl)) (fun _ _ _ h => h) (Or.inr ⟨by rfl, rfl⟩) ?_ ?_
                  rotate_left
                  · simp only [Act.put, List.setIfInBounds_toArray, List.set_cons_zero, List.set_cons_succ, i64_w, i32_w]
                    rfl
                  refine pure_ (i := 21) (N := some 133) (v := undef) (a' := ?_) #[true, true, true, true, true, true, true, true, true, true, true, true, true, true, true, true, true, true, true, true, true, true, false, false, false, false, false, false] rfl rfl (any_of HT_.out (by kernel_rfl)) (fun _ _ _ h => h) (Or.inr ⟨by rfl, rfl⟩) ?_ ?_
                  rotate_left
                  · simp only [Act.put, List.setIfInBounds_toArray, List.set_cons_zero, List.set_cons_succ, i64_w, i32_w]
                    rfl
                  refine pure_ (i := 22) (N := some 134) (v := undef) (a' := ?_) #[true, true, true, true, true, true, true, true, true, true, true, true, true, true, true, true, true, true, true, true, true, true, true, false, false, false, false, false] rfl rfl (any_of HT_.out (by kernel_rfl)) (fun _ _ _ h => h) (Or.inr ⟨by rfl, rfl⟩) ?_ ?_
                  rotate_left
                  · simp only [Act.put, List.setIfInBounds_toArray, List.set_cons_zero, List.set_cons_succ, i64_w, i32_w]
                    rfl
                  refine pure_ (i := 23) (N := some 135) (v := undef) (a' := ?_) #[true, true, true, true, true, true, true, true, true, true, true, true, true, true, true, true, true, true, true, true, true, true, true, true, false, false, false, false] rfl rfl (any_of HT_.out (by kernel_rfl)) (fun _ _ _ h => h) (Or.inr ⟨by rfl, rfl⟩) ?_ ?_
                  rotate_left
                  · simp only [Act.put, List.setIfInBounds_toArray, List.set_cons_zero, List.set_cons_succ, i64_w, i32_w]
                    rfl
                  refine pure_ (i := 24) (N := some 136) (v := undef) (a' := ?_) #[true, true, true, true, true, true, true, true, true, true, true, true, true, true, true, true, true, true, true, true, true, true, true, true, true, false, false, false] rfl rfl (any_of HT_.out (by kernel_rfl)) (fun _ _ _ h => h) (Or.inr ⟨by rfl, rfl⟩) ?_ ?_
                  rotate_left
                  · simp only [Act.put, List.setIfInBounds_toArray, List.set_cons_zero, List.set_cons_succ, i64_w, i32_w]
                    rfl
                  refine pure_ (i := 25) (N := some 137) (v := undef) (a' := ?_) #[true, true, true, true, true, true, true, true, true, true, true, true, true, true, true, true, true, true, true, true, true, true, true, true, true, true, false, false] rfl rfl (any_of HT_.out (by kernel_rfl)) (fun _ _ _ h => h) (Or.inr ⟨by rfl, rfl⟩) ?_ ?_
                  rotate_left
                  · simp only [Act.put, List.setIfInBounds_toArray, List.set_cons_zero, List.set_cons_succ, i64_w, i32_w]
                    rfl
                  refine pure_ (i := 26) (N := some 138) (v := ?_) (a' := ?_) #[true, true, true, true, true, true, true, true, true, true, true, true, true, true, true, true, true, true, true, true, true, true, true, true, true, true, true, false] rfl rfl (any_of HT_.out (by kernel_rfl)) (fun _ _ _ h => h) (Or.inl ⟨by rfl, ?_⟩) ?_ ?_
                  rotate_left
                  · intro w'
                    go_simp
                    with_reducible rfl
                  rotate_left
                  · simp only [Act.put, List.setIfInBounds_toArray, List.set_cons_zero, List.set_cons_succ, i64_w, i32_w]
                    rfl
                  refine pure_ (i := 27) (N := some 139) (v := ?_) (a' := ?_) #[true, true, true, true, true, true, true, true, true, true, true, true, true, true, true, true, true, true, true, true, true, true, true, true, true, true, true, true] rfl rfl (any_of HT_.out (by kernel_rfl)) (fun _ _ _ h => h) (Or.inl ⟨by rfl, ?_⟩) ?_ ?_
                  rotate_left
                  · intro w'
                    go_simp
                    with_reducible rfl
                  rotate_left
                  · simp only [Act.put, List.setIfInBounds_toArray, List.set_cons_zero, List.set_cons_succ, i64_w, i32_w]
                    rfl
                  refine done_ (done_of HT_.out (by kernel_rfl)) ?_
                  try go_wp2
                  go_meet
                  case rel => exact ⟨false, rfl, ⟨fun _ => ⟨HTY.out, fun h => absurd h (Nat.lt_irrefl 0)⟩⟩, HIP2, HO3b, HO4b⟩
                · obtain ⟨y, hy⟩ : ∃ y, y = l.getD (i - 1) z47 := ⟨_, rfl⟩
                  obtain ⟨ad', A6, c6, he, y0, y1, y2, y3, y4, y5, y6, y7, y8, hy2, hyF⟩ := at_F47 HF.out (i - 1) (by omega) y hy
                  injection he with he
                  subst he
                  have HY := Aside0.mk hy
                  have Y0 := Aside0.mk y0
                  clear y0 y1 y2 y3 y4 y5 y6 y7 y8 hy hy2 hyF
                  by_cases h7 : x.f0.f0 ≤ y.f0.f0
                  · skip
                    have t6 : decide ((1099511627776 : Int) < x.f6) = false := decide_eq_false h6
                    have p0 : decide (0 < i) = true := decide_eq_true (by omega)
                    have p1 : decide ((0 : Int) < (i : Int)) = true := decide_eq_true (by omega)
                    have p2 : (i : Int) - 1 < (l.length : Int) := by omega
                    have p3 : (0 : Int) ≤ (i : Int) - 1 := by omega
                    have p4 : (1 : Int) ≤ (i : Int) := by omega
                    have p7 : decide (x.f0.f0 ≤ y.f0.f0) = true := decide_eq_true h7
                    have p5w : wrap64 ((i : Int) - 1) = (i : Int) - 1 := by unfold wrap64; omega
                    have p6 : ((i : Int) - 1).toNat = i - 1 := by omega
                    refine start_ (n := 28) (S := (fun W => W.cell? ⟨g, 0, none⟩ = some (.int .i64 x.f0.f0) ∧ W.cell? ⟨g, 1, none⟩ = some (.int .i64 x.f0.f1) ∧ W.cell? ⟨g, 2, none⟩ = some (.slice A5 x.f0.f2.length c5) ∧ W.cell? ⟨g, 3, none⟩ = some (.int .i64 x.f1) ∧ W.cell? ⟨g, 4, none⟩ = some (.int .i64 x.f2) ∧ W.cell? ⟨g, 5, none⟩ = some (.int .i64 x.f3) ∧ W.cell? ⟨g, 6, none⟩ = some (.string x.f4) ∧ W.cell? ⟨g, 7, none⟩ = some (.string x.f5) ∧ W.cell? ⟨g, 8, none⟩ = some (.int .i64 x.f6) ∧ W.cell? ⟨w.heap.size, 1, none⟩ = some (.int .i64 1099511627776) ∧ W.cell? ⟨w.heap.size, 3, none⟩ = some (.slice (some ad) l.length c) ∧ W.cell? (ad.add ((i - 1) * 9)) = some (.int .i64 y.f0.f0) ∧ Aside0 (IP w g (verC Al cl (some ad) c l) (tabC x A5 c5) W))) (ds := []) #[false, false, false, false, false, false, false, false, false, false, false, false, false, false, false, false, false, false, false, false, false, false, false, false, false, false, false, false] (by kernel_rfl) rfl rfl (IP.s16p Y0.out HIPd.out) (fun hHeld => ?_); refine with_tabW is8.tab16 is8.bits16 (fun HT_ HW_ => ?_)
                    refine take_ (i := 0) (N := some 112) (v := ?_) (a' := ?_) #[true, false, false, false, false, false, false, false, false, false, false, false, false, false, false, false, false, false, false, false, false, false, false, false, false, false, false, false] rfl rfl (take_ofW HT_.out HW_.out (by kernel_rfl)) (fun _ _ _ h => h) (Or.inl ⟨by rfl, ?_⟩) hHeld ?_ ?_
                    rotate_left
                    · rintro w' ⟨s0, s1, s2, s3, s4, s5, s6, s7, s8, s9, s10, s11, s12⟩
                      go_simp
                      with_reducible rfl
                    rotate_left
                    · simp only [Act.put, List.setIfInBounds_toArray, List.set_cons_zero, List.set_cons_succ, i64_w, i32_w]
                      rfl
                    refine one_ (i := 1) (N := some 113) #[true, true, false, false, false, false, false, false, false, false, false, false, false, false, false, false, false, false, false, false, false, false, false, false, false, false, false, false] rfl rfl (one_of HT_.out (by kernel_rfl)) (by decide) (fun K hK => ?_)
                    refine goes_ Try.func26 (by kernel_rfl) rfl #[.agg #[.int .i64 x.f0.f0, .int .i64 x.f0.f1, .slice A5 x.f0.f2.length c5, .int .i64 x.f1, .int .i64 x.f2, .int .i64 x.f3, .string x.f4, .string x.f5, .int .i64 x.f6]] (by rfl) rfl rfl (by (try simp only [List.map_toArray, List.map_cons, List.map_nil]); first | done | rfl | (simp only [List.length_drop, List.length_take]; rfl)) ?_
                    with_reducible refine (HIT.out _ ?side).mono ?_
                    (case side => exact HCX.out _ HIPd.out)
                    rintro e w26 ⟨rfl, hB26⟩
                    refine ⟨_, rfl, ?_⟩
                    have HIP2 := Aside0.mk (IP.to HIPd.out hB26)
                    have HO3b := Aside0.mk (Kd.R_below HO3d.out hB26)
                    have HO4b := Aside0.mk (Kd.R_below HO4d.out hB26)
                    clear hB26
                    refine hK.out _ _ (IP.s16p Y0.out HIP2.out) (fun hHeld => ?_)
                    clear hK K
                    refine norm_ (a' := ?_) ?_ ?_
                    rotate_left
                    · show Act.put _ (some 113) _ = _
                      simp only [Act.put, List.setIfInBounds_toArray, List.set_cons_zero, List.set_cons_succ, i64_w, i32_w]
                      rfl
                    refine pure_ (i := 2) (N := some 114) (v := ?_) (a' := ?_) #[true, true, true, false, false, false, false, false, false, false, false, false, false, false, false, false, false, false, false, false, false, false, false, false, false, false, false, false] rfl rfl (any_of HT_.out (by kernel_rfl)) (fun _ _ _ h => h) (Or.inl ⟨by rfl, ?_⟩) ?_ ?_
                    rotate_left
                    · intro w'
                      go_simp
                      with_reducible rfl
                    rotate_left
                    · simp only [Act.put, List.setIfInBounds_toArray, List.set_cons_zero, List.set_cons_succ, i64_w, i32_w]
                      rfl
                    refine pure_ (i := 3) (N := some 115) (v := ?_) (a' := ?_) #[true, true, true, true, false, false, false, false, false, false, false, false, false, false, false, false, false, false, false, false, false, false, false, false, false, false, false, false] rfl rfl (any_of HT_.out (by kernel_rfl)) (fun _ _ _ h => h) (Or.inl ⟨by rfl, ?_⟩) ?_ ?_
                    rotate_left
                    · intro w'
                      go_simp
                      with_reducible rfl
                    rotate_left
                    · simp only [Act.put, List.setIfInBounds_toArray, List.set_cons_zero, List.set_cons_succ, i64_w, i32_w]
                      rfl
                    refine pure_ (i := 4) (N := some 116) (v := ?_) (a' := ?_) #[true, true, true, true, true, false, false, false, false, false, false, false, false, false, false, false, false, false, false, false, false, false, false, false, false, false, false, false] rfl rfl (any_of HT_.out (by kernel_rfl)) (fun _ _ _ h => h) (Or.inl ⟨by rfl, ?_⟩) ?_ ?_
                    rotate_left
                    · intro w'
                      go_simp
                      with_reducible rfl
                    rotate_left
                    · simp only [Act.put, List.setIfInBounds_toArray, List.set_cons_zero, List.set_cons_succ, i64_w, i32_w]
                      rfl
                    refine pure_ (i := 6) (N := some 118) (v := ?_) (a' := ?_) #[true, true, true, true, true, false, true, false, false, false, false, false, false, false, false, false, false, false, false, false, false, false, false, false, false, false, false, false] rfl rfl (any_of HT_.out (by kernel_rfl)) (fun _ _ _ h => h) (Or.inl ⟨by rfl, ?_⟩) ?_ ?_
                    rotate_left
                    · intro w'
                      go_simp
                      with_reducible rfl
                    rotate_left
                    · simp only [Act.put, List.setIfInBounds_toArray, List.set_cons_zero, List.set_cons_succ, i64_w, i32_w]
                      rfl
                    refine take_ (i := 5) (N := some 117) (v := ?_) (a' := ?_) #[true, true, true, true, true, true, true, false, false, false, false, false, false, false, false, false, false, false, false, false, false, false, false, false, false, false, false, false] rfl rfl (take_ofW HT_.out HW_.out (by kernel_rfl)) (fun _ _ _ h => h) (Or.inl ⟨by rfl, ?_⟩) hHeld ?_ ?_
                    rotate_left
                    · rintro w' ⟨s0, s1, s2, s3, s4, s5, s6, s7, s8, s9, s10, s11, s12⟩
                      go_simp
                      with_reducible rfl
                    rotate_left
                    · simp only [Act.put, List.setIfInBounds_toArray, List.set_cons_zero, List.set_cons_succ, i64_w, i32_w]
                      rfl
                    refine take_ (i := 7) (N := some 119) (v := ?_) (a' := ?_) #[true, true, true, true, true, true, true, true, false, false, false, false, false, false, false, false, false, false, false, false, false, false, false, false, false, false, false, false] rfl rfl (take_ofW HT_.out HW_.out (by kernel_rfl)) (fun _ _ _ h => h) (Or.inl ⟨by rfl, ?_⟩) hHeld ?_ ?_
                    rotate_left
                    · rintro w' ⟨s0, s1, s2, s3, s4, s5, s6, s7, s8, s9, s10, s11, s12⟩
                      go_simp
                      with_reducible rfl
                    rotate_left
                    · simp only [Act.put, List.setIfInBounds_toArray, List.set_cons_zero, List.set_cons_succ, i64_w, i32_w]
                      rfl
                    refine pure_ (i := 8) (N := some 120) (v := ?_) (a' := ?_) #[true, true, true, true, true, true, true, true, true, false, false, false, false, false, false, false, false, false, false, false, false, false, false, false, false, false, false, false] rfl rfl (any_of HT_.out (by kernel_rfl)) (fun _ _ _ h => h) (Or.inl ⟨by rfl, ?_⟩) ?_ ?_
                    rotate_left
                    · intro w'
                      go_simp
                      with_reducible rfl
                    rotate_left
                    · simp only [Act.put, List.setIfInBounds_toArray, List.set_cons_zero, List.set_cons_succ, i64_w, i32_w]
                      rfl
                    (first | rw [t6] | (simp only [i64_w, i32_w]; rw [t6]) | skip)
                    refine pure_ (i := 9) (N := some 121) (v := ?_) (a' := ?_) #[true, true, true, true, true, true, true, true, true, true, false, false, false, false, false, false, false, false, false, false, false, false, false, false, false, false, false, false] rfl rfl (any_of HT_.out (by kernel_rfl)) (fun _ _ _ h => h) (Or.inl ⟨by rfl, ?_⟩) ?_ ?_
                    rotate_left
                    · intro w'
                      go_simp
                      with_reducible rfl
                    rotate_left
                    · simp only [Act.put, List.setIfInBounds_toArray, List.set_cons_zero, List.set_cons_succ, i64_w, i32_w]
                      rfl
                    refine pure_ (i := 10) (N := some 122) (v := ?_) (a' := ?_) #[true, true, true, true, true, true, true, true, true, true, true, false, false, false, false, false, false, false, false, false, false, false, false, false, false, false, false, false] rfl rfl (any_of HT_.out (by kernel_rfl)) (fun _ _ _ h => h) (Or.inl ⟨by rfl, ?_⟩) ?_ ?_
                    rotate_left
                    · intro w'
                      go_simp
                      with_reducible rfl
                    rotate_left
                    · simp only [Act.put, List.setIfInBounds_toArray, List.set_cons_zero, List.set_cons_succ, i64_w, i32_w]
                      rfl
                    refine pure_ (i := 11) (N := some 123) (v := ?_) (a' := ?_) #[true, true, true, true, true, true, true, true, true, true, true, true, false, false, false, false, false, false, false, false, false, false, false, false, false, false, false, false] rfl rfl (any_of HT_.out (by kernel_rfl)) (fun _ _ _ h => h) (Or.inl ⟨by rfl, ?_⟩) ?_ ?_
                    rotate_left
                    · intro w'
                      go_simp
                      with_reducible rfl
                    rotate_left
                    · simp only [Act.put, List.setIfInBounds_toArray, List.set_cons_zero, List.set_cons_succ, i64_w, i32_w]
                      rfl
                    refine pure_ (i := 12) (N := some 124) (v := ?_) (a' := ?_) #[true, true, true, true, true, true, true, true, true, true, true, true, true, false, false, false, false, false, false, false, false, false, false, false, false, false, false, false] rfl rfl (any_of HT_.out (by kernel_rfl)) (fun _ _ _ h => h) (Or.inl ⟨by rfl, ?_⟩) ?_ ?_
                    rotate_left
                    · intro w'
                      go_simp
                      with_reducible rfl
                    rotate_left
                    · simp only [Act.put, List.setIfInBounds_toArray, List.set_cons_zero, List.set_cons_succ, i64_w, i32_w]
                      rfl
                    (first | rw [p1] | (simp only [i64_w, i32_w]; rw [p1]) | skip)
                    refine pure_ (i := 13) (N := some 125) (v := ?_) (a' := ?_) #[true, true, true, true, true, true, true, true, true, true, true, true, true, true, false, false, false, false, false, false, false, false, false, false, false, false, false, false] rfl rfl (any_of HT_.out (by kernel_rfl)) (fun _ _ _ h => h) (Or.inl ⟨by rfl, ?_⟩) ?_ ?_
                    rotate_left
                    · intro w'
                      go_simp
                      with_reducible rfl
                    rotate_left
                    · simp only [Act.put, List.setIfInBounds_toArray, List.set_cons_zero, List.set_cons_succ, i64_w, i32_w]
                      rfl
                    refine pure_ (i := 14) (N := some 126) (v := ?_) (a' := ?_) #[true, true, true, true, true, true, true, true, true, true, true, true, true, true, true, false, false, false, false, false, false, false, false, false, false, false, false, false] rfl rfl (any_of HT_.out (by kernel_rfl)) (fun _ _ _ h => h) (Or.inl ⟨by rfl, ?_⟩) ?_ ?_
                    rotate_left
                    · intro w'
                      go_simp
                      with_reducible rfl
                    rotate_left
                    · simp only [Act.put, List.setIfInBounds_toArray, List.set_cons_zero, List.set_cons_succ, i64_w, i32_w]
                      rfl
                    refine take_ (i := 15) (N := some 127) (v := ?_) (a' := ?_) #[true, true, true, true, true, true, true, true, true, true, true, true, true, true, true, true, false, false, false, false, false, false, false, false, false, false, false, false] rfl rfl (take_ofW HT_.out HW_.out (by kernel_rfl)) (fun _ _ _ h => h) (Or.inl ⟨by rfl, ?_⟩) hHeld ?_ ?_
                    rotate_left
                    · rintro w' ⟨s0, s1, s2, s3, s4, s5, s6, s7, s8, s9, s10, s11, s12⟩
                      go_simp
                      with_reducible rfl
                    rotate_left
                    · simp only [Act.put, List.setIfInBounds_toArray, List.set_cons_zero, List.set_cons_succ, i64_w, i32_w]
                      rfl
                    refine pure_ (i := 16) (N := some 128) (v := ?_) (a' := ?_) #[true, true, true, true, true, true, true, true, true, true, true, true, true, true, true, true, true, false, false, false, false, false, false, false, false, false, false, false] rfl rfl (any_of HT_.out (by kernel_rfl)) (fun _ _ _ h => h) (Or.inl ⟨by rfl, ?_⟩) ?_ ?_
                    rotate_left
                    · intro w'
                      go_simp
                      with_reducible rfl
                    rotate_left
                    · simp only [Act.put, List.setIfInBounds_toArray, List.set_cons_zero, List.set_cons_succ, i64_w, i32_w]
                      rfl
                    refine pure_ (i := 17) (N := some 129) (v := ?_) (a' := ?_) #[true, true, true, true, true, true, true, true, true, true, true, true, true, true, true, true, true, true, false, false, false, false, false, false, false, false, false, false] rfl rfl (any_of HT_.out (by kernel_rfl)) (fun _ _ _ h => h) (Or.inl ⟨by rfl, ?_⟩) ?_ ?_
                    rotate_left
                    · intro w'
                      go_simp
                      with_reducible rfl
                    rotate_left
                    · simp only [Act.put, List.setIfInBounds_toArray, List.set_cons_zero, List.set_cons_succ, i64_w, i32_w]
                      rfl
                    (first | rw [p5w] | (simp only [i64_w, i32_w]; rw [p5w]) | skip)
                    refine pure_ (i := 18) (N := some 130) (v := ?_) (a' := ?_) #[true, true, true, true, true, true, true, true, true, true, true, true, true, true, true, true, true, true, true, false, false, false, false, false, false, false, false, false] rfl rfl (any_of HT_.out (by kernel_rfl)) (fun _ _ _ h => h) (Or.inl ⟨by rfl, ?_⟩) ?_ ?_
                    rotate_left
                    · intro w'
                      go_simp
                      with_reducible rfl
                    rotate_left
                    · simp only [Act.put, List.setIfInBounds_toArray, List.set_cons_zero, List.set_cons_succ, i64_w, i32_w]
                      rfl
                    (first | rw [p6] | (simp only [i64_w, i32_w]; rw [p6]) | skip)
                    refine pure_ (i := 19) (N := some 131) (v := ?_) (a' := ?_) #[true, true, true, true, true, true, true, true, true, true, true, true, true, true, true, true, true, true, true, true, false, false, false, false, false, false, false, false] rfl rfl (any_of HT_.out (by kernel_rfl)) (fun _ _ _ h => h) (Or.inl ⟨by rfl, ?_⟩) ?_ ?_
                    rotate_left
                    · intro w'
                      go_simp
                      with_reducible rfl
                    rotate_left
                    · simp only [Act.put, List.setIfInBounds_toArray, List.set_cons_zero, List.set_cons_succ, i64_w, i32_w]
                      rfl
                    refine pure_ (i := 20) (N := some 132) (v := ?_) (a' := ?_) #[true, true, true, true, true, true, true, true, true, true, true, true, true, true, true, true, true, true, true, true, true, false, false, false, false, false, false, false] rfl rfl (any_of HT_.out (by kernel_rfl)) (fun _ _ _ h => h) (Or.inl ⟨by rfl, ?_⟩) ?_ ?_
                    rotate_left
                    · intro w'
                      go_simp
                      with_reducible rfl
                    rotate_left
                    · simp only [Act.put, List.setIfInBounds_toArray, List.set_cons_zero, List.set_cons_succ, i64_w, i32_w]
                      rfl
                    refine take_ (i := 21) (N := some 133) (v := ?_) (a' := ?_) #[true, true, true, true, true, true, true, true, true, true, true, true, true, true, true, true, true, true, true, true, true, true, false, false, false, false, false, false] rfl rfl (take_ofW HT_.out HW_.out (by kernel_rfl)) (fun _ _ _ h => h) (Or.inl ⟨by rfl, ?_⟩) hHeld ?_ ?_
                    rotate_left
                    · rintro w' ⟨s0, s1, s2, s3, s4, s5, s6, s7, s8, s9, s10, s11, s12⟩
                      go_simp
                      with_reducible rfl
                    rotate_left
                    · simp only [Act.put, List.setIfInBounds_toArray, List.set_cons_zero, List.set_cons_succ, i64_w, i32_w]
                      rfl
                    refine pure_ (i := 22) (N := some 134) (v := ?_) (a' := ?_) #[true, true, true, true, true, true, true, true, true, true, true, true, true, true, true, true, true, true, true, true, true, true, true, false, false, false, false, false] rfl rfl (any_of HT_.out (by kernel_rfl)) (fun _ _ _ h => h) (Or.inl ⟨by rfl, ?_⟩) ?_ ?_
                    rotate_left
                    · intro w'
                      go_simp
                      with_reducible rfl
                    rotate_left
                    · simp only [Act.put, List.setIfInBounds_toArray, List.set_cons_zero, List.set_cons_succ, i64_w, i32_w]
                      rfl
                    refine pure_ (i := 23) (N := some 135) (v := ?_) (a' := ?_) #[true, true, true, true, true, true, true, true, true, true, true, true, true, true, true, true, true, true, true, true, true, true, true, true, false, false, false, false] rfl rfl (any_of HT_.out (by kernel_rfl)) (fun _ _ _ h => h) (Or.inl ⟨by rfl, ?_⟩) ?_ ?_
                    rotate_left
                    · intro w'
                      go_simp
                      with_reducible rfl
                    rotate_left
                    · simp only [Act.put, List.setIfInBounds_toArray, List.set_cons_zero, List.set_cons_succ, i64_w, i32_w]
                      rfl
                    refine take_ (i := 24) (N := some 136) (v := ?_) (a' := ?_) #[true, true, true, true, true, true, true, true, true, true, true, true, true, true, true, true, true, true, true, true, true, true, true, true, true, false, false, false] rfl rfl (take_ofW HT_.out HW_.out (by kernel_rfl)) (fun _ _ _ h => h) (Or.inl ⟨by rfl, ?_⟩) hHeld ?_ ?_
                    rotate_left
                    · rintro w' ⟨s0, s1, s2, s3, s4, s5, s6, s7, s8, s9, s10, s11, s12⟩
                      go_simp
                      with_reducible rfl
                    rotate_left
                    · simp only [Act.put, List.setIfInBounds_toArray, List.set_cons_zero, List.set_cons_succ, i64_w, i32_w]
                      rfl
                    refine pure_ (i := 25) (N := some 137) (v := ?_) (a' := ?_) #[true, true, true, true, true, true, true, true, true, true, true, true, true, true, true, true, true, true, true, true, true, true, true, true, true, true, false, false] rfl rfl (any_of HT_.out (by kernel_rfl)) (fun _ _ _ h => h) (Or.inl ⟨by rfl, ?_⟩) ?_ ?_
                    rotate_left
                    · intro w'
                      go_simp
                      with_reducible rfl
                    rotate_left
                    · simp only [Act.put, List.setIfInBounds_toArray, List.set_cons_zero, List.set_cons_succ, i64_w, i32_w]
                      rfl
                    (first | rw [p7] | (simp only [i64_w, i32_w]; rw [p7]) | skip)
                    refine pure_ (i := 26) (N := some 138) (v := ?_) (a' := ?_) #[true, true, true, true, true, true, true, true, true, true, true, true, true, true, true, true, true, true, true, true, true, true, true, true, true, true, true, false] rfl rfl (any_of HT_.out (by kernel_rfl)) (fun _ _ _ h => h) (Or.inl ⟨by rfl, ?_⟩) ?_ ?_
                    rotate_left
                    · intro w'
                      go_simp
                      with_reducible rfl
                    rotate_left
                    · simp only [Act.put, List.setIfInBounds_toArray, List.set_cons_zero, List.set_cons_succ, i64_w, i32_w]
                      rfl
                    refine pure_ (i := 27) (N := some 139) (v := ?_) (a' := ?_) #[true, true, true, true, true, true, true, true, true, true, true, true, true, true, true, true, true, true, true, true, true, true, true, true, true, true, true, true] rfl rfl (any_of HT_.out (by kernel_rfl)) (fun _ _ _ h => h) (Or.inl ⟨by rfl, ?_⟩) ?_ ?_
                    rotate_left
                    · intro w'
                      go_simp
                      with_reducible rfl
                    rotate_left
                    · simp only [Act.put, List.setIfInBounds_toArray, List.set_cons_zero, List.set_cons_succ, i64_w, i32_w]
                      rfl
                    refine done_ (done_of HT_.out (by kernel_rfl)) ?_
                    try go_wp2
                    go_meet
                    case rel => exact ⟨true, rfl, ⟨fun h => by cases h⟩, HIP2, HO3b, HO4b⟩
                  · skip
                    have t6 : decide ((1099511627776 : Int) < x.f6) = false := decide_eq_false h6
                    have p0 : decide (0 < i) = true := decide_eq_true (by omega)
                    have p1 : decide ((0 : Int) < (i : Int)) = true := decide_eq_true (by omega)
                    have p2 : (i : Int) - 1 < (l.length : Int) := by omega
                    have p3 : (0 : Int) ≤ (i : Int) - 1 := by omega
                    have p4 : (1 : Int) ≤ (i : Int) := by omega
                    have p7 : decide (x.f0.f0 ≤ y.f0.f0) = false := decide_eq_false h7
                    have HLT := Aside0.mk (show idT y < idT x from by unfold idT; omega)
                    have p5w : wrap64 ((i : Int) - 1) = (i : Int) - 1 := by unfold wrap64; omega
                    have p6 : ((i : Int) - 1).toNat = i - 1 := by omega
                    refine start_ (n := 28) (S := (fun W => W.cell? ⟨g, 0, none⟩ = some (.int .i64 x.f0.f0) ∧ W.cell? ⟨g, 1, none⟩ = some (.int .i64 x.f0.f1) ∧ W.cell? ⟨g, 2, none⟩ = some (.slice A5 x.f0.f2.length c5) ∧ W.cell? ⟨g, 3, none⟩ = some (.int .i64 x.f1) ∧ W.cell? ⟨g, 4, none⟩ = some (.int .i64 x.f2) ∧ W.cell? ⟨g, 5, none⟩ = some (.int .i64 x.f3) ∧ W.cell? ⟨g, 6, none⟩ = some (.string x.f4) ∧ W.cell? ⟨g, 7, none⟩ = some (.string x.f5) ∧ W.cell? ⟨g, 8, none⟩ = some (.int .i64 x.f6) ∧ W.cell? ⟨w.heap.size, 1, none⟩ = some (.int .i64 1099511627776) ∧ W.cell? ⟨w.heap.size, 3, none⟩ = some (.slice (some ad) l.length c) ∧ W.cell? (ad.add ((i - 1) * 9)) = some (.int .i64 y.f0.f0) ∧ Aside0 (IP w g (verC Al cl (some ad) c l) (tabC x A5 c5) W))) (ds := []) #[false, false, false, false, false, false, false, false, false, false, false, false, false, false, false, false, false, false, false, false, false, false, false, false, false, false, false, false] (by kernel_rfl) rfl rfl (IP.s16p Y0.out HIPd.out) (fun hHeld => ?_); refine with_tabW is8.tab16 is8.bits16 (fun HT_ HW_ => ?_)
                    refine take_ (i := 0) (N := some 112) (v := ?_) (a' := ?_) #[true, false, false, false, false, false, false, false, false, false, false, false, false, false, false, false, false, false, false, false, false, false, false, false, false, false, false, false] rfl rfl (take_ofW HT_.out HW_.out (by kernel_rfl)) (fun _ _ _ h => h) (Or.inl ⟨by rfl, ?_⟩) hHeld ?_ ?_
                    rotate_left
                    · rintro w' ⟨s0, s1, s2, s3, s4, s5, s6, s7, s8, s9, s10, s11, s12⟩
                      go_simp
                      with_reducible rfl
                    rotate_left
                    · simp only [Act.put, List.setIfInBounds_toArray, List.set_cons_zero, List.set_cons_succ, i64_w, i32_w]
                      rfl
                    refine one_ (i := 1) (N := some 113) #[true, true, false, false, false, false, false, false, false, false, false, false, false, false, false, false, false, false, false, false, false, false, false, false, false, false, false, false] rfl rfl (one_of HT_.out (by kernel_rfl)) (by decide) (fun K hK => ?_)
                    refine goes_ Try.func26 (by kernel_rfl) rfl #[.agg #[.int .i64 x.f0.f0, .int .i64 x.f0.f1, .slice A5 x.f0.f2.length c5, .int .i64 x.f1, .int .i64 x.f2, .int .i64 x.f3, .string x.f4, .string x.f5, .int .i64 x.f6]] (by rfl) rfl rfl (by (try simp only [List.map_toArray, List.map_cons, List.map_nil]); first | done | rfl | (simp only [List.length_drop, List.length_take]; rfl)) ?_
                    with_reducible refine (HIT.out _ ?side).mono ?_
                    (case side => exact HCX.out _ HIPd.out)
                    rintro e w26 ⟨rfl, hB26⟩
                    refine ⟨_, rfl, ?_⟩
                    have HIP2 := Aside0.mk (IP.to HIPd.out hB26)
                    have HO3b := Aside0.mk (Kd.R_below HO3d.out hB26)
                    have HO4b := Aside0.mk (Kd.R_below HO4d.out hB26)
                    clear hB26
                    refine hK.out _ _ (IP.s16p Y0.out HIP2.out) (fun hHeld => ?_)
                    clear hK K
                    refine norm_ (a' := ?_) ?_ ?_
                    rotate_left
                    · show Act.put _ (some 113) _ = _
                      simp only [Act.put, List.setIfInBounds_toArray, List.set_cons_zero, List.set_cons_succ, i64_w, i32_w]
                      rfl
                    refine pure_ (i := 2) (N := some 114) (v := ?_) (a' := ?_) #[true, true, true, false, false, false, false, false, false, false, false, false, false, false, false, false, false, false, false, false, false, false, false, false, false, false, false, false] rfl rfl (any_of HT_.out (by kernel_rfl)) (fun _ _ _ h => h) (Or.inl ⟨by rfl, ?_⟩) ?_ ?_
                    rotate_left
                    · intro w'
                      go_simp
                      with_reducible rfl
                    rotate_left
                    · simp only [Act.put, List.setIfInBounds_toArray, List.set_cons_zero, List.set_cons_succ, i64_w, i32_w]
                      rfl
                    refine pure_ (i := 3) (N := some 115) (v := ?_) (a' := ?_) #[true, true, true, true, false, false, false, false, false, false, false, false, false, false, false, false, false, false, false, false, false, false, false, false, false, false, false, false] rfl rfl (any_of HT_.out (by kernel_rfl)) (fun _ _ _ h => h) (Or.inl ⟨by rfl, ?_⟩) ?_ ?_
                    rotate_left
                    · intro w'
                      go_simp
                      with_reducible rfl
                    rotate_left
                    · simp only [Act.put, List.setIfInBounds_toArray, List.set_cons_zero, List.set_cons_succ, i64_w, i32_w]
                      rfl
                    refine pure_ (i := 4) (N := some 116) (v := ?_) (a' := ?_) #[true, true, true, true, true, false, false, false, false, false, false, false, false, false, false, false, false, false, false, false, false, false, false, false, false, false, false, false] rfl rfl (any_of HT_.out (by kernel_rfl)) (fun _ _ _ h => h) (Or.inl ⟨by rfl, ?_⟩) ?_ ?_
                    rotate_left
                    · intro w'
                      go_simp
                      with_reducible rfl
                    rotate_left
                    · simp only [Act.put, List.setIfInBounds_toArray, List.set_cons_zero, List.set_cons_succ, i64_w, i32_w]
                      rfl
                    refine pure_ (i := 6) (N := some 118) (v := ?_) (a' := ?_) #[true, true, true, true, true, false, true, false, false, false, false, false, false, false, false, false, false, false, false, false, false, false, false, false, false, false, false, false] rfl rfl (any_of HT_.out (by kernel_rfl)) (fun _ _ _ h => h) (Or.inl ⟨by rfl, ?_⟩) ?_ ?_
                    rotate_left
                    · intro w'
                      go_simp
                      with_reducible rfl
                    rotate_left
                    · simp only [Act.put, List.setIfInBounds_toArray, List.set_cons_zero, List.set_cons_succ, i64_w, i32_w]
                      rfl
                    refine take_ (i := 5) (N := some 117) (v := ?_) (a' := ?_) #[true, true, true, true, true, true, true, false, false, false, false, false, false, false, false, false, false, false, false, false, false, false, false, false, false, false, false, false] rfl rfl (take_ofW HT_.out HW_.out (by kernel_rfl)) (fun _ _ _ h => h) (Or.inl ⟨by rfl, ?_⟩) hHeld ?_ ?_
                    rotate_left
                    · rintro w' ⟨s0, s1, s2, s3, s4, s5, s6, s7, s8, s9, s10, s11, s12⟩
                      go_simp
                      with_reducible rfl
                    rotate_left
                    · simp only [Act.put, List.setIfInBounds_toArray, List.set_cons_zero, List.set_cons_succ, i64_w, i32_w]
                      rfl
                    refine take_ (i := 7) (N := some 119) (v := ?_) (a' := ?_) #[true, true, true, true, true, true, true, true, false, false, false, false, false, false, false, false, false, false, false, false, false, false, false, false, false, false, false, false] rfl rfl (take_ofW HT_.out HW_.out (by kernel_rfl)) (fun _ _ _ h => h) (Or.inl ⟨by rfl, ?_⟩) hHeld ?_ ?_
                    rotate_left
                    · rintro w' ⟨s0, s1, s2, s3, s4, s5, s6, s7, s8, s9, s10, s11, s12⟩
                      go_simp
                      with_reducible rfl
                    rotate_left
                    · simp only [Act.put, List.setIfInBounds_toArray, List.set_cons_zero, List.set_cons_succ, i64_w, i32_w]
                      rfl
                    refine pure_ (i := 8) (N := some 120) (v := ?_) (a' := ?_) #[true, true, true, true, true, true, true, true, true, false, false, false, false, false, false, false, false, false, false, false, false, false, false, false, false, false, false, false] rfl rfl (any_of HT_.out (by kernel_rfl)) (fun _ _ _ h => h) (Or.inl ⟨by rfl, ?_⟩) ?_ ?_
                    rotate_left
                    · intro w'
                      go_simp
                      with_reducible rfl
                    rotate_left
                    · simp only [Act.put, List.setIfInBounds_toArray, List.set_cons_zero, List.set_cons_succ, i64_w, i32_w]
                      rfl
                    (first | rw [t6] | (simp only [i64_w, i32_w]; rw [t6]) | skip)
                    refine pure_ (i := 9) (N := some 121) (v := ?_) (a' := ?_) #[true, true, true, true, true, true, true, true, true, true, false, false, false, false, false, false, false, false, false, false, false, false, false, false, false, false, false, false] rfl rfl (any_of HT_.out (by kernel_rfl)) (fun _ _ _ h => h) (Or.inl ⟨by rfl, ?_⟩) ?_ ?_
                    rotate_left
                    · intro w'
                      go_simp
                      with_reducible rfl
                    rotate_left
                    · simp only [Act.put, List.setIfInBounds_toArray, List.set_cons_zero, List.set_cons_succ, i64_w, i32_w]
                      rfl
                    refine pure_ (i := 10) (N := some 122) (v := ?_) (a' := ?_) #[true, true, true, true, true, true, true, true, true, true, true, false, false, false, false, false, false, false, false, false, false, false, false, false, false, false, false, false] rfl rfl (any_of HT_.out (by kernel_rfl)) (fun _ _ _ h => h) (Or.inl ⟨by rfl, ?_⟩) ?_ ?_
                    rotate_left
                    · intro w'
                      go_simp
                      with_reducible rfl
                    rotate_left
                    · simp only [Act.put, List.setIfInBounds_toArray, List.set_cons_zero, List.set_cons_succ, i64_w, i32_w]
                      rfl
                    refine pure_ (i := 11) (N := some 123) (v := ?_) (a' := ?_) #[true, true, true, true, true, true, true, true, true, true, true, true, false, false, false, false, false, false, false, false, false, false, false, false, false, false, false, false] rfl rfl (any_of HT_.out (by kernel_rfl)) (fun _ _ _ h => h) (Or.inl ⟨by rfl, ?_⟩) ?_ ?_
                    rotate_left
                    · intro w'
                      go_simp
                      with_reducible rfl
                    rotate_left
                    · simp only [Act.put, List.setIfInBounds_toArray, List.set_cons_zero, List.set_cons_succ, i64_w, i32_w]
                      rfl
                    refine pure_ (i := 12) (N := some 124) (v := ?_) (a' := ?_) #[true, true, true, true, true, true, true, true, true, true, true, true, true, false, false, false, false, false, false, false, false, false, false, false, false, false, false, false] rfl rfl (any_of HT_.out (by kernel_rfl)) (fun _ _ _ h => h) (Or.inl ⟨by rfl, ?_⟩) ?_ ?_
                    rotate_left
                    · intro w'
                      go_simp
                      with_reducible rfl
                    rotate_left
                    · simp only [Act.put, List.setIfInBounds_toArray, List.set_cons_zero, List.set_cons_succ, i64_w, i32_w]
                      rfl
                    (first | rw [p1] | (simp only [i64_w, i32_w]; rw [p1]) | skip)
                    refine pure_ (i := 13) (N := some 125) (v := ?_) (a' := ?_) #[true, true, true, true, true, true, true, true, true, true, true, true, true, true, false, false, false, false, false, false, false, false, false, false, false, false, false, false] rfl rfl (any_of HT_.out (by kernel_rfl)) (fun _ _ _ h => h) (Or.inl ⟨by rfl, ?_⟩) ?_ ?_
                    rotate_left
                    · intro w'
                      go_simp
                      with_reducible rfl
                    rotate_left
                    · simp only [Act.put, List.setIfInBounds_toArray, List.set_cons_zero, List.set_cons_succ, i64_w, i32_w]
                      rfl
                    refine pure_ (i := 14) (N := some 126) (v := ?_) (a' := ?_) #[true, true, true, true, true, true, true, true, true, true, true, true, true, true, true, false, false, false, false, false, false, false, false, false, false, false, false, false] rfl rfl (any_of HT_.out (by kernel_rfl)) (fun _ _ _ h => h) (Or.inl ⟨by rfl, ?_⟩) ?_ ?_
                    rotate_left
                    · intro w'
                      go_simp
                      with_reducible rfl
                    rotate_left
                    · simp only [Act.put, List.setIfInBounds_toArray, List.set_cons_zero, List.set_cons_succ, i64_w, i32_w]
                      rfl
                    refine take_ (i := 15) (N := some 127) (v := ?_) (a' := ?_) #[true, true, true, true, true, true, true, true, true, true, true, true, true, true, true, true, false, false, false, false, false, false, false, false, false, false, false, false] rfl rfl (take_ofW HT_.out HW_.out (by kernel_rfl)) (fun _ _ _ h => h) (Or.inl ⟨by rfl, ?_⟩) hHeld ?_ ?_
                    rotate_left
                    · rintro w' ⟨s0, s1, s2, s3, s4, s5, s6, s7, s8, s9, s10, s11, s12⟩
                      go_simp
                      with_reducible rfl
                    rotate_left
                    · simp only [Act.put, List.setIfInBounds_toArray, List.set_cons_zero, List.set_cons_succ, i64_w, i32_w]
                      rfl
                    refine pure_ (i := 16) (N := some 128) (v := ?_) (a' := ?_) #[true, true, true, true, true, true, true, true, true, true, true, true, true, true, true, true, true, false, false, false, false, false, false, false, false, false, false, false] rfl rfl (any_of HT_.out (by kernel_rfl)) (fun _ _ _ h => h) (Or.inl ⟨by rfl, ?_⟩) ?_ ?_
                    rotate_left
                    · intro w'
                      go_simp
                      with_reducible rfl
                    rotate_left
                    · simp only [Act.put, List.setIfInBounds_toArray, List.set_cons_zero, List.set_cons_succ, i64_w, i32_w]
                      rfl
                    refine pure_ (i := 17) (N := some 129) (v := ?_) (a' := ?_) #[true, true, true, true, true, true, true, true, true, true, true, true, true, true, true, true, true, true, false, false, false, false, false, false, false, false, false, false] rfl rfl (any_of HT_.out (by kernel_rfl)) (fun _ _ _ h => h) (Or.inl ⟨by rfl, ?_⟩) ?_ ?_
                    rotate_left
                    · intro w'
                      go_simp
                      with_reducible rfl
                    rotate_left
                    · simp only [Act.put, List.setIfInBounds_toArray, List.set_cons_zero, List.set_cons_succ, i64_w, i32_w]
                      rfl
                    (first | rw [p5w] | (simp only [i64_w, i32_w]; rw [p5w]) | skip)
                    refine pure_ (i := 18) (N := some 130) (v := ?_) (a' := ?_) #[true, true, true, true, true, true, true, true, true, true, true, true, true, true, true, true, true, true, true, false, false, false, false, false, false, false, false, false] rfl rfl (any_of HT_.out (by kernel_rfl)) (fun _ _ _ h => h) (Or.inl ⟨by rfl, ?_⟩) ?_ ?_
                    rotate_left
                    · intro w'
                      go_simp
                      with_reducible rfl
                    rotate_left
                    · simp only [Act.put, List.setIfInBounds_toArray, List.set_cons_zero, List.set_cons_succ, i64_w, i32_w]
                      rfl
                    (first | rw [p6] | (simp only [i64_w, i32_w]; rw [p6]) | skip)
                    refine pure_ (i := 19) (N := some 131) (v := ?_) (a' := ?_) #[true, true, true, true, true, true, true, true, true, true, true, true, true, true, true, true, true, true, true, true, false, false, false, false, false, false, false, false] rfl rfl (any_of HT_.out (by kernel_rfl)) (fun _ _ _ h => h) (Or.inl ⟨by rfl, ?_⟩) ?_ ?_
                    rotate_left
                    · intro w'
                      go_simp
                      with_reducible rfl
                    rotate_left
                    · simp only [Act.put, List.setIfInBounds_toArray, List.set_cons_zero, List.set_cons_succ, i64_w, i32_w]
                      rfl
                    refine pure_ (i := 20) (N := some 132) (v := ?_) (a' := ?_) #[true, true, true, true, true, true, true, true, true, true, true, true, true, true, true, true, true, true, true, true, true, false, false, false, false, false, false, false] rfl rfl (any_of HT_.out (by kernel_rfl)) (fun _ _ _ h => h) (Or.inl ⟨by rfl, ?_⟩) ?_ ?_
                    rotate_left
                    · intro w'
                      go_simp
                      with_reducible rfl
                    rotate_left
                    · simp only [Act.put, List.setIfInBounds_toArray, List.set_cons_zero, List.set_cons_succ, i64_w, i32_w]
                      rfl
                    refine take_ (i := 21) (N := some 133) (v := ?_) (a' := ?_) #[true, true, true, true, true, true, true, true, true, true, true, true, true, true, true, true, true, true, true, true, true, true, false, false, false, false, false, false] rfl rfl (take_ofW HT_.out HW_.out (by kernel_rfl)) (fun _ _ _ h => h) (Or.inl ⟨by rfl, ?_⟩) hHeld ?_ ?_
                    rotate_left
                    · rintro w' ⟨s0, s1, s2, s3, s4, s5, s6, s7, s8, s9, s10, s11, s12⟩
                      go_simp
                      with_reducible rfl
                    rotate_left
                    · simp only [Act.put, List.setIfInBounds_toArray, List.set_cons_zero, List.set_cons_succ, i64_w, i32_w]
                      rfl
                    refine pure_ (i := 22) (N := some 134) (v := ?_) (a' := ?_) #[true, true, true, true, true, true, true, true, true, true, true, true, true, true, true, true, true, true, true, true, true, true, true, false, false, false, false, false] rfl rfl (any_of HT_.out (by kernel_rfl)) (fun _ _ _ h => h) (Or.inl ⟨by rfl, ?_⟩) ?_ ?_
                    rotate_left
                    · intro w'
                      go_simp
                      with_reducible rfl
                    rotate_left
                    · simp only [Act.put, List.setIfInBounds_toArray, List.set_cons_zero, List.set_cons_succ, i64_w, i32_w]
                      rfl
                    refine pure_ (i := 23) (N := some 135) (v := ?_) (a' := ?_) #[true, true, true, true, true, true, true, true, true, true, true, true, true, true, true, true, true, true, true, true, true, true, true, true, false, false, false, false] rfl rfl (any_of HT_.out (by kernel_rfl)) (fun _ _ _ h => h) (Or.inl ⟨by rfl, ?_⟩) ?_ ?_
                    rotate_left
                    · intro w'
                      go_simp
                      with_reducible rfl
                    rotate_left
                    · simp only [Act.put, List.setIfInBounds_toArray, List.set_cons_zero, List.set_cons_succ, i64_w, i32_w]
                      rfl
                    refine take_ (i := 24) (N := some 136) (v := ?_) (a' := ?_) #[true, true, true, true, true, true, true, true, true, true, true, true, true, true, true, true, true, true, true, true, true, true, true, true, true, false, false, false] rfl rfl (take_ofW HT_.out HW_.out (by kernel_rfl)) (fun _ _ _ h => h) (Or.inl ⟨by rfl, ?_⟩) hHeld ?_ ?_
                    rotate_left
                    · rintro w' ⟨s0, s1, s2, s3, s4, s5, s6, s7, s8, s9, s10, s11, s12⟩
                      go_simp
                      with_reducible rfl
                    rotate_left
                    · simp only [Act.put, List.setIfInBounds_toArray, List.set_cons_zero, List.set_cons_succ, i64_w, i32_w]
                      rfl
                    refine pure_ (i := 25) (N := some 137) (v := ?_) (a' := ?_) #[true, true, true, true, true, true, true, true, true, true, true, true, true, true, true, true, true, true, true, true, true, true, true, true, true, true, false, false] rfl rfl (any_of HT_.out (by kernel_rfl)) (fun _ _ _ h => h) (Or.inl ⟨by rfl, ?_⟩) ?_ ?_
                    rotate_left
                    · intro w'
                      go_simp
                      with_reducible rfl
                    rotate_left
                    · simp only [Act.put, List.setIfInBounds_toArray, List.set_cons_zero, List.set_cons_succ, i64_w, i32_w]
                      rfl
                    (first | rw [p7] | (simp only [i64_w, i32_w]; rw [p7]) | skip)
                    refine pure_ (i := 26) (N := some 138) (v := ?_) (a' := ?_) #[true, true, true, true, true, true, true, true, true, true, true, true, true, true, true, true, true, true, true, true, true, true, true, true, true, true, true, false] rfl rfl (any_of HT_.out (by kernel_rfl)) (fun _ _ _ h => h) (Or.inl ⟨by rfl, ?_⟩) ?_ ?_
                    rotate_left
                    · intro w'
                      go_simp
                      with_reducible rfl
                    rotate_left
                    · simp only [Act.put, List.setIfInBounds_toArray, List.set_cons_zero, List.set_cons_succ, i64_w, i32_w]
                      rfl
                    refine pure_ (i := 27) (N := some 139) (v := ?_) (a' := ?_) #[true, true, true, true, true, true, true, true, true, true, true, true, true, true, true, true, true, true, true, true, true, true, true, true, true, true, true, true] rfl rfl (any_of HT_.out (by kernel_rfl)) (fun _ _ _ h => h) (Or.inl ⟨by rfl, ?_⟩) ?_ ?_
                    rotate_left
                    · intro w'
                      go_simp
                      with_reducible rfl
                    rotate_left
                    · simp only [Act.put, List.setIfInBounds_toArray, List.set_cons_zero, List.set_cons_succ, i64_w, i32_w]
                      rfl
                    refine done_ (done_of HT_.out (by kernel_rfl)) ?_
                    try go_wp2
                    go_meet
                    case rel => exact ⟨false, rfl, ⟨fun _ => ⟨HTY.out, fun _ => by rw [← HY.out]; exact HLT.out⟩⟩, HIP2, HO3b, HO4b⟩
          case rest =>
            clear HIP HO3a HO4a HB HR HO3 HO4 c0 c1 c2 c3 x0 x1 x2 x3 x4 x5 x6 x7 x8
            obtain ⟨b, rfl, HTX, HIP, HO3, HO4⟩ := hcut
            cases b with
            | true =>
              go_wp2
              go_ret
              exact IsPost.no HIP.out.below
            | false =>
              replace HTX := Aside0.mk (HTX.out rfl)
              go_wp2
              have HIPd := Aside0.mk (IP.drew HIP.out)
              have HO3d := Aside0.mk (Kd.R_drew HO3.out)
              have HO4d := Aside0.mk (Kd.R_drew HO4.out)
              refine start_ (n := 13) (S := (fun W => W.cell? ⟨g, 0, none⟩ = some (.int .i64 x.f0.f0) ∧ W.cell? ⟨g, 1, none⟩ = some (.int .i64 x.f0.f1) ∧ W.cell? ⟨g, 2, none⟩ = some (.slice A5 x.f0.f2.length c5) ∧ Aside0 (IP w g (verC Al cl (some ad) c l) (tabC x A5 c5) W))) (ds := []) #[false, false, false, false, false, false, false, false, false, false, false, false, false] (by kernel_rfl) rfl rfl ⟨blk_cell HIPd.out.b2 0, blk_cell HIPd.out.b2 1, blk_cell HIPd.out.b2 2, HIPd⟩ (fun hHeld => ?_); refine with_tabW is8.tab18 is8.bits18 (fun HT_ HW_ => ?_)
              generalize wc.drew = w8 at HIPd HO3d HO4d hHeld ⊢
              refine pure_ (i := 0) (N := some 140) (v := ?_) (a' := ?_) #[true, false, false, false, false, false, false, false, false, false, false, false, false] rfl rfl (any_of HT_.out (by kernel_rfl)) (fun _ _ _ h => h) (Or.inl ⟨by rfl, ?_⟩) ?_ ?_
              rotate_left
              · intro w'
                go_simp
                with_reducible rfl
              rotate_left
              · simp only [Act.put, List.setIfInBounds_toArray, List.set_cons_zero, List.set_cons_succ, i64_w, i32_w]
                rfl
              refine pure_ (i := 1) (N := some 141) (v := ?_) (a' := ?_) #[true, true, false, false, false, false, false, false, false, false, false, false, false] rfl rfl (any_of HT_.out (by kernel_rfl)) (fun _ _ _ h => h) (Or.inl ⟨by rfl, ?_⟩) ?_ ?_
              rotate_left
              · intro w'
                go_simp
                with_reducible rfl
              rotate_left
              · simp only [Act.put, List.setIfInBounds_toArray, List.set_cons_zero, List.set_cons_succ, i64_w, i32_w]
                rfl
              refine pure_ (i := 2) (N := some 142) (v := ?_) (a' := ?_) #[true, true, true, false, false, false, false, false, false, false, false, false, false] rfl rfl (any_of HT_.out (by kernel_rfl)) (fun _ _ _ h => h) (Or.inl ⟨by rfl, ?_⟩) ?_ ?_
              rotate_left
              · intro w'
                go_simp
                with_reducible rfl
              rotate_left
              · simp only [Act.put, List.setIfInBounds_toArray, List.set_cons_zero, List.set_cons_succ, i64_w, i32_w]
                rfl
              refine pure_ (i := 6) (N := some 146) (v := ?_) (a' := ?_) #[true, true, true, false, false, false, true, false, false, false, false, false, false] rfl rfl (any_of HT_.out (by kernel_rfl)) (fun _ _ _ h => h) (Or.inl ⟨by rfl, ?_⟩) ?_ ?_
              rotate_left
              · intro w'
                go_simp
                with_reducible rfl
              rotate_left
              · simp only [Act.put, List.setIfInBounds_toArray, List.set_cons_zero, List.set_cons_succ, i64_w, i32_w]
                rfl
              refine pure_ (i := 7) (N := some 147) (v := ?_) (a' := ?_) #[true, true, true, false, false, false, true, true, false, false, false, false, false] rfl rfl (any_of HT_.out (by kernel_rfl)) (fun _ _ _ h => h) (Or.inl ⟨by rfl, ?_⟩) ?_ ?_
              rotate_left
              · intro w'
                go_simp
                with_reducible rfl
              rotate_left
              · simp only [Act.put, List.setIfInBounds_toArray, List.set_cons_zero, List.set_cons_succ, i64_w, i32_w]
                rfl
              refine take_ (i := 3) (N := some 143) (v := ?_) (a' := ?_) #[true, true, true, true, false, false, true, true, false, false, false, false, false] rfl rfl (take_ofW HT_.out HW_.out (by kernel_rfl)) (fun _ _ _ h => h) (Or.inl ⟨by rfl, ?_⟩) hHeld ?_ ?_
              rotate_left
              · rintro w' ⟨s0, s1, s2, s3⟩
                go_simp
                with_reducible rfl
              rotate_left
              · simp only [Act.put, List.setIfInBounds_toArray, List.set_cons_zero, List.set_cons_succ, i64_w, i32_w]
                rfl
              refine take_ (i := 8) (N := some 148) (v := ?_) (a' := ?_) #[true, true, true, true, false, false, true, true, true, false, false, false, false] rfl rfl (take_ofW HT_.out HW_.out (by kernel_rfl)) (fun _ _ _ h => h) (Or.inl ⟨by rfl, ?_⟩) hHeld ?_ ?_
              rotate_left
              · rintro w' ⟨s0, s1, s2, s3⟩
                go_simp
                with_reducible rfl
              rotate_left
              · simp only [Act.put, List.setIfInBounds_toArray, List.set_cons_zero, List.set_cons_succ, i64_w, i32_w]
                rfl
              refine one_ (i := 4) (N := some 144) #[true, true, true, true, true, false, true, true, true, false, false, false, false] rfl rfl (one_of HT_.out (by kernel_rfl)) (by decide) (fun K hK => ?_)
              refine value_ (w1 := ?_) (v := ?_) (by rfl) rfl ?_ ?_
              rotate_left 2
              · go_simp
                constructor
                · rfl
                · rfl
              have HIPe := Aside0.mk (IP.alloc HIPd.out (.cells #[.int .i64 x.f0.f0] 3))
              refine hK.out _ _ ⟨blk_cell HIPe.out.b2 0, blk_cell HIPe.out.b2 1, blk_cell HIPe.out.b2 2, HIPe⟩ (fun hHeld => ?_)
              clear hK K
              refine norm_ (a' := ?_) ?_ ?_
              rotate_left
              · show Act.put _ (some 144) _ = _
                simp only [Act.put, List.setIfInBounds_toArray, List.set_cons_zero, List.set_cons_succ, i64_w, i32_w]
                rfl
              refine one_ (i := 5) (N := some 145) #[true, true, true, true, true, true, true, true, true, false, false, false, false] rfl rfl (one_of HT_.out (by kernel_rfl)) (by decide) (fun K hK => ?_)
              refine Kd.R_append_step (Kd.int .i64) (w0 := w) w.heap.size (by rfl) (.tmp 140) (.tmp 144) 32 3 (.int .i64 0) 8 rfl Try.underlying32 info3 rfl (by decide) (by omega) (.slice A3 ids.length d3) ids (x.f0.f0) [.int .i64 x.f0.f0] (fun k_ => some k_ ≠ (.slice A4 all.length d4 : Value).ownBlock) (fun _ => False) rfl rfl ?aP (fun _ hk => hk.elim) ?aF ?aO ?aB ?aS ?aL ?_
              (case aP => exact rfl)
              (case aB => exact HIPd.out.below)
              (case aF => exact (fun k_ hk => Kd.fresh' (Kd.R_lt HO4d.out) k_ hk))
              (case aO => exact HO3d.out)
              (case aS => exact below_size HIPd.out.below)
              (case aL => have := HLN.out; have := HLL.out; have := HI.out; omega)
              intro v5 w5 ho hb hg hat
              have HIPf := Aside0.mk (IP.grown HIPd.out HO3d.out hb hg)
              have HO4e := Aside0.mk (Kd.R_after (ok := (fun _ => True)) (Kd.R_mono HO4d.out (fun _ hk => ⟨trivial, hk⟩)) hg hat)
              have HO3e := Aside0.mk ho
              clear ho hb hg hat
              refine hK.out _ _ ⟨blk_cell HIPf.out.b2 0, blk_cell HIPf.out.b2 1, blk_cell HIPf.out.b2 2, HIPf⟩ (fun hHeld => ?_)
              clear hK K
              refine norm_ (a' := ?_) ?_ ?_
              rotate_left
              · show Act.put _ (some 145) _ = _
                simp only [Act.put, List.setIfInBounds_toArray, List.set_cons_zero, List.set_cons_succ, i64_w, i32_w]
                rfl
              refine one_ (i := 9) (N := some 149) #[true, true, true, true, true, true, true, true, true, true, false, false, false] rfl rfl (one_of HT_.out (by kernel_rfl)) (by decide) (fun K hK => ?_)
              refine goes_ Try.func25 (by kernel_rfl) rfl #[.agg #[.int .i64 x.f0.f0, .int .i64 x.f0.f1, .slice A5 x.f0.f2.length c5]] (by rfl) rfl rfl (by (try simp only [List.map_toArray, List.map_cons, List.map_nil]); first | done | rfl | (simp only [List.length_drop, List.length_take]; rfl)) ?_
              with_reducible refine (plots_c _ _ A5 c5 x.f0.f2 _ ?side HLX.out ?side2).mono ?_
              (case side => exact HCX.out _ HIPf.out)
              (case side2 => have := HTX.out.1.ps; omega)
              rintro e w6 ⟨A6, c6, rfl, hR6, hB6⟩
              refine ⟨_, rfl, ?_⟩
              have HIPh := Aside0.mk (IP.to HIPf.out hB6)
              have HO3f := Aside0.mk (Kd.R_elder' HO3e.out (Kd.R_base hR6) hB6)
              have HO4f := Aside0.mk (Kd.R_elder' HO4e.out (Kd.R_base hR6) hB6)
              have HO6f := Aside0.mk (Kd.R_lower (Kd.R_new' (Kd.R_new' hR6 (Kd.R_lt HO4e.out)) (Kd.R_lt HO3e.out)) (below_size HIPf.out.below))
              clear hR6 hB6
              refine hK.out _ _ ⟨blk_cell HIPh.out.b2 0, blk_cell HIPh.out.b2 1, blk_cell HIPh.out.b2 2, HIPh⟩ (fun hHeld => ?_)
              clear hK K
              refine norm_ (a' := ?_) ?_ ?_
              rotate_left
              · show Act.put _ (some 149) _ = _
                simp only [Act.put, List.setIfInBounds_toArray, List.set_cons_zero, List.set_cons_succ, i64_w, i32_w]
                rfl
              refine one_ (i := 10) (N := some 150) #[true, true, true, true, true, true, true, true, true, true, true, false, false] rfl rfl (one_of HT_.out (by kernel_rfl)) (by decide) (fun K hK => ?_)
              refine Kd.R_append_rows_step (Kd.int .i64) (w0 := w) w.heap.size (by rfl) (.tmp 146) (.tmp 149) 32 3 (.int .i64 0) 8 rfl Try.underlying32 info3 rfl (by decide) (by omega) (.slice A4 all.length d4) all (plotsL x.f0.f2) _ _ _ (fun k_ => some k_ ≠ (v5 : Value).ownBlock ∧ some k_ ≠ (.slice A6 (plotsL x.f0.f2).length c6 : Value).ownBlock) (fun _ => False) rfl rfl ?aO ?aR (fun _ _ h => h) (fun _ h => h.elim) ?aF ?aB ?aS ?aL ?_
              (case aR => exact (Kd.R_reads' HO6f.out).2.2)
              (case aB => exact HIPh.out.below)
              (case aF => exact (fun k_ hk => ⟨Kd.fresh' (Kd.R_lt HO3f.out) k_ hk, Kd.fresh' (Kd.R_lt HO6f.out) k_ hk⟩))
              (case aO => exact (Kd.R_mono HO4f.out (fun _ hk => ⟨hk.1.2, hk.2⟩)))
              (case aS => exact below_size HIPh.out.below)
              (case aL => have := HLN.out; have := HLL.out; have := HI.out; have := plotsL_len x.f0.f2; have := HTX.out.1.ps; omega)
              intro v7 w7 ho hb hg hat
              have HIPi := Aside0.mk (IP.grown HIPh.out HO4f.out hb hg)
              have HO3g := Aside0.mk (Kd.R_mono (Kd.R_after (ok := (fun _ => True)) (Kd.R_mono HO3f.out (fun _ hk => ⟨trivial, hk.1⟩)) hg hat) (fun _ hk => hk.2))
              have HO4g := Aside0.mk (Kd.R_mono ho (fun _ hk => hk.1))
              clear ho hb hg hat
              refine hK.out _ _ ⟨blk_cell HIPi.out.b2 0, blk_cell HIPi.out.b2 1, blk_cell HIPi.out.b2 2, HIPi⟩ (fun hHeld => ?_)
              clear hK K
              refine norm_ (a' := ?_) ?_ ?_
              rotate_left
              · show Act.put _ (some 150) _ = _
                simp only [Act.put, List.setIfInBounds_toArray, List.set_cons_zero, List.set_cons_succ, i64_w, i32_w]
                rfl
              refine pure_ (i := 11) (N := some 3) (v := ?_) (a' := ?_) #[true, true, true, true, true, true, true, true, true, true, true, true, false] rfl rfl (any_of HT_.out (by kernel_rfl)) (fun _ _ _ h => h) (Or.inl ⟨by rfl, ?_⟩) ?_ ?_
              rotate_left
              · intro w'
                go_simp
                with_reducible rfl
              rotate_left
              · simp only [Act.put, List.setIfInBounds_toArray, List.set_cons_zero, List.set_cons_succ, i64_w, i32_w]
                rfl
              refine pure_ (i := 12) (N := some 4) (v := ?_) (a' := ?_) #[true, true, true, true, true, true, true, true, true, true, true, true, true] rfl rfl (any_of HT_.out (by kernel_rfl)) (fun _ _ _ h => h) (Or.inl ⟨by rfl, ?_⟩) ?_ ?_
              rotate_left
              · intro w'
                go_simp
                with_reducible rfl
              rotate_left
              · simp only [Act.put, List.setIfInBounds_toArray, List.set_cons_zero, List.set_cons_succ, i64_w, i32_w]
                rfl
              refine done_ (done_of HT_.out (by kernel_rfl)) ?_
              try go_wp2
              go_loopg [10] (i + 1) (fun kq v10 wq => ∃ j : Nat, v10 = .int .i64 j ∧ Aside0 (j ≤ i) ∧ Aside0 (i - j < kq) ∧ Aside0 (kI.R 3 wq w.heap.size (fun k => some k ≠ Value.ownBlock v7) v5 (ids ++ [x.f0.f0])) ∧ Aside0 (kI.R 3 wq w.heap.size (fun k => some k ≠ Value.ownBlock v5) v7 (all ++ plotsL x.f0.f2)) ∧ Aside0 (∀ j', j' < j → clash x (l.getD j' z47) = false) ∧ Aside0 (IP w g (verC Al cl (some ad) c l) (tabC x A5 c5) wq))
              case atStart => exact ⟨0, rfl, ⟨Nat.zero_le _⟩, ⟨by omega⟩, HO3g, HO4g, ⟨fun _ h => absurd h (Nat.not_lt_zero _)⟩, HIPi⟩
              case round =>
                obtain ⟨j, rfl, HJ, HJK, HO3j, HO4j, HCL, HIPj⟩ := hrel
                clear HO3g HO4g HIPi HO3d HO4d HIPd HIP HO3 HO4 HIPe HIPf HIPh HO3e HO4e HO3f HO4f HO6f hHeld
                have hjv := HJ.out
                by_cases hji : j < i
                · have tj : decide (j < i) = true := decide_eq_true hji
                  have tj2 : decide ((j : Int) < (i : Int)) = true := decide_eq_true (by omega)
                  have hj0 : (0 : Int) ≤ (j : Int) := by omega
                  have hj1 : (j : Int) < (l.length : Int) := by omega
                  have hj2 : (j : Int) ≤ 200 := by omega
                  obtain ⟨y, hy⟩ : ∃ y, y = l.getD j z47 := ⟨_, rfl⟩
                  obtain ⟨ad', A7, c7, he, y0, y1, y2, y3, y4, y5, y6, y7, y8, hy2, hyF⟩ := at_F47 HF.out j (by omega) y hy
                  injection he with he
                  subst he
                  have HY := Aside0.mk hy
                  have Y0 := Aside0.mk y0
                  have Y1 := Aside0.mk y1
                  have Y2 := Aside0.mk y2
                  have Y3 := Aside0.mk y3
                  have Y4 := Aside0.mk y4
                  have Y5 := Aside0.mk y5
                  have Y6 := Aside0.mk y6
                  have Y7 := Aside0.mk y7
                  have Y8 := Aside0.mk y8
                  clear y0 y1 y2 y3 y4 y5 y6 y7 y8 hy hy2 hyF
                  go_upto_region 22 with fail
                  go_cut [178] (fun v178 wc => ∃ b : Bool, v178 = .bool b ∧ Aside0 (b = clash x y) ∧ Aside0 (IP w g (verC Al cl (some ad) c l) (tabC x A5 c5) wc) ∧ Aside0 (kI.R 3 wc w.heap.size (fun k => some k ≠ Value.ownBlock v7) v5 (ids ++ [x.f0.f0])) ∧ Aside0 (kI.R 3 wc w.heap.size (fun k => some k ≠ Value.ownBlock v5) v7 (all ++ plotsL x.f0.f2)))
                  case first =>
                    have HIPk := Aside0.mk (IP.drew HIPj.out)
                    have HO3k := Aside0.mk (Kd.R_drew HO3j.out)
                    have HO4k := Aside0.mk (Kd.R_drew HO4j.out)
                    by_cases h1 : 0 < x.f2
                    · have tq1 : decide (0 < x.f2) = true := decide_eq_true h1
                      by_cases h2 : y.f2 = x.f2
                      · have tq2 : (y.f2 == x.f2) = true := beq_iff_eq.2 h2
                        have HCL2 := Aside0.mk (show meetB y.f4 y.f5 x = clash x y from by unfold clash; rw [decide_eq_true h1, decide_eq_true h2]; rfl)
                        clear h1 h2
                        refine start_ (n := 23) (S := (fun W => W.cell? ⟨g, 0, none⟩ = some (.int .i64 x.f0.f0) ∧ W.cell? ⟨g, 1, none⟩ = some (.int .i64 x.f0.f1) ∧ W.cell? ⟨g, 2, none⟩ = some (.slice A5 x.f0.f2.length c5) ∧ W.cell? ⟨g, 3, none⟩ = some (.int .i64 x.f1) ∧ W.cell? ⟨g, 4, none⟩ = some (.int .i64 x.f2) ∧ W.cell? ⟨g, 5, none⟩ = some (.int .i64 x.f3) ∧ W.cell? ⟨g, 6, none⟩ = some (.string x.f4) ∧ W.cell? ⟨g, 7, none⟩ = some (.string x.f5) ∧ W.cell? ⟨g, 8, none⟩ = some (.int .i64 x.f6) ∧ W.cell? ⟨w.heap.size, 3, none⟩ = some (.slice (some ad) l.length c) ∧ W.cell? (ad.add (j * 9)) = some (.int .i64 y.f0.f0) ∧ W.cell? ⟨(ad.add (j * 9)).block, (ad.add (j * 9)).off + 1, none⟩ = some (.int .i64 y.f0.f1) ∧ W.cell? ⟨(ad.add (j * 9)).block, (ad.add (j * 9)).off + 2, none⟩ = some (.slice A7 y.f0.f2.length c7) ∧ W.cell? ⟨(ad.add (j * 9)).block, (ad.add (j * 9)).off + 3, none⟩ = some (.int .i64 y.f1) ∧ W.cell? ⟨(ad.add (j * 9)).block, (ad.add (j * 9)).off + 4, none⟩ = some (.int .i64 y.f2) ∧ W.cell? ⟨(ad.add (j * 9)).block, (ad.add (j * 9)).off + 5, none⟩ = some (.int .i64 y.f3) ∧ W.cell? ⟨(ad.add (j * 9)).block, (ad.add (j * 9)).off + 6, none⟩ = some (.string y.f4) ∧ W.cell? ⟨(ad.add (j * 9)).block, (ad.add (j * 9)).off + 7, none⟩ = some (.string y.f5) ∧ W.cell? ⟨(ad.add (j * 9)).block, (ad.add (j * 9)).off + 8, none⟩ = some (.int .i64 y.f6) ∧ Aside0 (IP w g (verC Al cl (some ad) c l) (tabC x A5 c5) W))) (ds := []) #[false, false, false, false, false, false, false, false, false, false, false, false, false, false, false, false, false, false, false, false, false, false, false] (by kernel_rfl) rfl rfl (IP.s22 Y0.out Y1.out Y2.out Y3.out Y4.out Y5.out Y6.out Y7.out Y8.out HIPk.out) (fun hHeld => ?_); refine with_tabW is8.tab22 is8.bits22 (fun HT_ HW_ => ?_)
                        refine pure_ (i := 0) (N := some 156) (v := ?_) (a' := ?_) #[true, false, false, false, false, false, false, false, false, false, false, false, false, false, false, false, false, false, false, false, false, false, false] rfl rfl (any_of HT_.out (by kernel_rfl)) (fun _ _ _ h => h) (Or.inl ⟨by rfl, ?_⟩) ?_ ?_
                        rotate_left
                        · intro w'
                          go_simp
                          with_reducible rfl
                        rotate_left
                        · simp only [Act.put, List.setIfInBounds_toArray, List.set_cons_zero, List.set_cons_succ, i64_w, i32_w]
                          rfl
                        refine take_ (i := 1) (N := some 157) (v := ?_) (a' := ?_) #[true, true, false, false, false, false, false, false, false, false, false, false, false, false, false, false, false, false, false, false, false, false, false] rfl rfl (take_ofW HT_.out HW_.out (by kernel_rfl)) (fun _ _ _ h => h) (Or.inl ⟨by rfl, ?_⟩) hHeld ?_ ?_
                        rotate_left
                        · rintro w' ⟨s0, s1, s2, s3, s4, s5, s6, s7, s8, s9, s10, s11, s12, s13, s14, s15, s16, s17, s18, s19⟩
                          go_simp
                          with_reducible rfl
                        rotate_left
                        · simp only [Act.put, List.setIfInBounds_toArray, List.set_cons_zero, List.set_cons_succ, i64_w, i32_w]
                          rfl
                        refine pure_ (i := 2) (N := some 158) (v := ?_) (a' := ?_) #[true, true, true, false, false, false, false, false, false, false, false, false, false, false, false, false, false, false, false, false, false, false, false] rfl rfl (any_of HT_.out (by kernel_rfl)) (fun _ _ _ h => h) (Or.inl ⟨by rfl, ?_⟩) ?_ ?_
                        rotate_left
                        · intro w'
                          go_simp
                          with_reducible rfl
                        rotate_left
                        · simp only [Act.put, List.setIfInBounds_toArray, List.set_cons_zero, List.set_cons_succ, i64_w, i32_w]
                          rfl
                        (first | rw [tq1] | (simp only [i64_w, i32_w]; rw [tq1]) | skip)
                        refine pure_ (i := 3) (N := some 159) (v := ?_) (a' := ?_) #[true, true, true, true, false, false, false, false, false, false, false, false, false, false, false, false, false, false, false, false, false, false, false] rfl rfl (any_of HT_.out (by kernel_rfl)) (fun _ _ _ h => h) (Or.inl ⟨by rfl, ?_⟩) ?_ ?_
                        rotate_left
                        · intro w'
                          go_simp
                          with_reducible rfl
                        rotate_left
                        · simp only [Act.put, List.setIfInBounds_toArray, List.set_cons_zero, List.set_cons_succ, i64_w, i32_w]
                          rfl
                        refine pure_ (i := 4) (N := some 160) (v := ?_) (a' := ?_) #[true, true, true, true, true, false, false, false, false, false, false, false, false, false, false, false, false, false, false, false, false, false, false] rfl rfl (any_of HT_.out (by kernel_rfl)) (fun _ _ _ h => h) (Or.inl ⟨by rfl, ?_⟩) ?_ ?_
                        rotate_left
                        · intro w'
                          go_simp
                          with_reducible rfl
                        rotate_left
                        · simp only [Act.put, List.setIfInBounds_toArray, List.set_cons_zero, List.set_cons_succ, i64_w, i32_w]
                          rfl
                        refine pure_ (i := 6) (N := some 162) (v := ?_) (a' := ?_) #[true, true, true, true, true, false, true, false, false, false, false, false, false, false, false, false, false, false, false, false, false, false, false] rfl rfl (any_of HT_.out (by kernel_rfl)) (fun _ _ _ h => h) (Or.inl ⟨by rfl, ?_⟩) ?_ ?_
                        rotate_left
                        · intro w'
                          go_simp
                          with_reducible rfl
                        rotate_left
                        · simp only [Act.put, List.setIfInBounds_toArray, List.set_cons_zero, List.set_cons_succ, i64_w, i32_w]
                          rfl
                        refine take_ (i := 5) (N := some 161) (v := ?_) (a' := ?_) #[true, true, true, true, true, true, true, false, false, false, false, false, false, false, false, false, false, false, false, false, false, false, false] rfl rfl (take_ofW HT_.out HW_.out (by kernel_rfl)) (fun _ _ _ h => h) (Or.inl ⟨by rfl, ?_⟩) hHeld ?_ ?_
                        rotate_left
                        · rintro w' ⟨s0, s1, s2, s3, s4, s5, s6, s7, s8, s9, s10, s11, s12, s13, s14, s15, s16, s17, s18, s19⟩
                          go_simp
                          with_reducible rfl
                        rotate_left
                        · simp only [Act.put, List.setIfInBounds_toArray, List.set_cons_zero, List.set_cons_succ, i64_w, i32_w]
                          rfl
                        refine pure_ (i := 7) (N := some 163) (v := ?_) (a' := ?_) #[true, true, true, true, true, true, true, true, false, false, false, false, false, false, false, false, false, false, false, false, false, false, false] rfl rfl (any_of HT_.out (by kernel_rfl)) (fun _ _ _ h => h) (Or.inl ⟨by rfl, ?_⟩) ?_ ?_
                        rotate_left
                        · intro w'
                          go_simp
                          with_reducible rfl
                        rotate_left
                        · simp only [Act.put, List.setIfInBounds_toArray, List.set_cons_zero, List.set_cons_succ, i64_w, i32_w]
                          rfl
                        refine pure_ (i := 8) (N := some 164) (v := ?_) (a' := ?_) #[true, true, true, true, true, true, true, true, true, false, false, false, false, false, false, false, false, false, false, false, false, false, false] rfl rfl (any_of HT_.out (by kernel_rfl)) (fun _ _ _ h => h) (Or.inl ⟨by rfl, ?_⟩) ?_ ?_
                        rotate_left
                        · intro w'
                          go_simp
                          with_reducible rfl
                        rotate_left
                        · simp only [Act.put, List.setIfInBounds_toArray, List.set_cons_zero, List.set_cons_succ, i64_w, i32_w]
                          rfl
                        refine pure_ (i := 10) (N := some 166) (v := ?_) (a' := ?_) #[true, true, true, true, true, true, true, true, true, false, true, false, false, false, false, false, false, false, false, false, false, false, false] rfl rfl (any_of HT_.out (by kernel_rfl)) (fun _ _ _ h => h) (Or.inl ⟨by rfl, ?_⟩) ?_ ?_
                        rotate_left
                        · intro w'
                          go_simp
                          with_reducible rfl
                        rotate_left
                        · simp only [Act.put, List.setIfInBounds_toArray, List.set_cons_zero, List.set_cons_succ, i64_w, i32_w]
                          rfl
                        refine take_ (i := 9) (N := some 165) (v := ?_) (a' := ?_) #[true, true, true, true, true, true, true, true, true, true, true, false, false, false, false, false, false, false, false, false, false, false, false] rfl rfl (take_ofW HT_.out HW_.out (by kernel_rfl)) (fun _ _ _ h => h) (Or.inl ⟨by rfl, ?_⟩) hHeld ?_ ?_
                        rotate_left
                        · rintro w' ⟨s0, s1, s2, s3, s4, s5, s6, s7, s8, s9, s10, s11, s12, s13, s14, s15, s16, s17, s18, s19⟩
                          go_simp
                          with_reducible rfl
                        rotate_left
                        · simp only [Act.put, List.setIfInBounds_toArray, List.set_cons_zero, List.set_cons_succ, i64_w, i32_w]
                          rfl
                        refine take_ (i := 11) (N := some 167) (v := ?_) (a' := ?_) #[true, true, true, true, true, true, true, true, true, true, true, true, false, false, false, false, false, false, false, false, false, false, false] rfl rfl (take_ofW HT_.out HW_.out (by kernel_rfl)) (fun _ _ _ h => h) (Or.inl ⟨by rfl, ?_⟩) hHeld ?_ ?_
                        rotate_left
                        · rintro w' ⟨s0, s1, s2, s3, s4, s5, s6, s7, s8, s9, s10, s11, s12, s13, s14, s15, s16, s17, s18, s19⟩
                          go_simp
                          with_reducible rfl
                        rotate_left
                        · simp only [Act.put, List.setIfInBounds_toArray, List.set_cons_zero, List.set_cons_succ, i64_w, i32_w]
                          rfl
                        refine pure_ (i := 12) (N := some 168) (v := ?_) (a' := ?_) #[true, true, true, true, true, true, true, true, true, true, true, true, true, false, false, false, false, false, false, false, false, false, false] rfl rfl (any_of HT_.out (by kernel_rfl)) (fun _ _ _ h => h) (Or.inl ⟨by rfl, ?_⟩) ?_ ?_
                        rotate_left
                        · intro w'
                          go_simp
                          with_reducible rfl
                        rotate_left
                        · simp only [Act.put, List.setIfInBounds_toArray, List.set_cons_zero, List.set_cons_succ, i64_w, i32_w]
                          rfl
                        (first | rw [tq2] | (simp only [i64_w, i32_w]; rw [tq2]) | skip)
                        refine pure_ (i := 13) (N := some 169) (v := ?_) (a' := ?_) #[true, true, true, true, true, true, true, true, true, true, true, true, true, true, false, false, false, false, false, false, false, false, false] rfl rfl (any_of HT_.out (by kernel_rfl)) (fun _ _ _ h => h) (Or.inl ⟨by rfl, ?_⟩) ?_ ?_
                        rotate_left
                        · intro w'
                          go_simp
                          with_reducible rfl
                        rotate_left
                        · simp only [Act.put, List.setIfInBounds_toArray, List.set_cons_zero, List.set_cons_succ, i64_w, i32_w]
                          rfl
                        refine pure_ (i := 14) (N := some 170) (v := ?_) (a' := ?_) #[true, true, true, true, true, true, true, true, true, true, true, true, true, true, true, false, false, false, false, false, false, false, false] rfl rfl (any_of HT_.out (by kernel_rfl)) (fun _ _ _ h => h) (Or.inl ⟨by rfl, ?_⟩) ?_ ?_
                        rotate_left
                        · intro w'
                          go_simp
                          with_reducible rfl
                        rotate_left
                        · simp only [Act.put, List.setIfInBounds_toArray, List.set_cons_zero, List.set_cons_succ, i64_w, i32_w]
                          rfl
                        refine pure_ (i := 16) (N := some 172) (v := ?_) (a' := ?_) #[true, true, true, true, true, true, true, true, true, true, true, true, true, true, true, false, true, false, false, false, false, false, false] rfl rfl (any_of HT_.out (by kernel_rfl)) (fun _ _ _ h => h) (Or.inl ⟨by rfl, ?_⟩) ?_ ?_
                        rotate_left
                        · intro w'
                          go_simp
                          with_reducible rfl
                        rotate_left
                        · simp only [Act.put, List.setIfInBounds_toArray, List.set_cons_zero, List.set_cons_succ, i64_w, i32_w]
                          rfl
                        refine pure_ (i := 18) (N := some 174) (v := ?_) (a' := ?_) #[true, true, true, true, true, true, true, true, true, true, true, true, true, true, true, false, true, false, true, false, false, false, false] rfl rfl (any_of HT_.out (by kernel_rfl)) (fun _ _ _ h => h) (Or.inl ⟨by rfl, ?_⟩) ?_ ?_
                        rotate_left
                        · intro w'
                          go_simp
                          with_reducible rfl
                        rotate_left
                        · simp only [Act.put, List.setIfInBounds_toArray, List.set_cons_zero, List.set_cons_succ, i64_w, i32_w]
                          rfl
                        refine take_ (i := 15) (N := some 171) (v := ?_) (a' := ?_) #[true, true, true, true, true, true, true, true, true, true, true, true, true, true, true, true, true, false, true, false, false, false, false] rfl rfl (take_ofW HT_.out HW_.out (by kernel_rfl)) (fun _ _ _ h => h) (Or.inl ⟨by rfl, ?_⟩) hHeld ?_ ?_
                        rotate_left
                        · rintro w' ⟨s0, s1, s2, s3, s4, s5, s6, s7, s8, s9, s10, s11, s12, s13, s14, s15, s16, s17, s18, s19⟩
                          go_simp
                          with_reducible rfl
                        rotate_left
                        · simp only [Act.put, List.setIfInBounds_toArray, List.set_cons_zero, List.set_cons_succ, i64_w, i32_w]
                          rfl
                        refine take_ (i := 17) (N := some 173) (v := ?_) (a' := ?_) #[true, true, true, true, true, true, true, true, true, true, true, true, true, true, true, true, true, true, true, false, false, false, false] rfl rfl (take_ofW HT_.out HW_.out (by kernel_rfl)) (fun _ _ _ h => h) (Or.inl ⟨by rfl, ?_⟩) hHeld ?_ ?_
                        rotate_left
                        · rintro w' ⟨s0, s1, s2, s3, s4, s5, s6, s7, s8, s9, s10, s11, s12, s13, s14, s15, s16, s17, s18, s19⟩
                          go_simp
                          with_reducible rfl
                        rotate_left
                        · simp only [Act.put, List.setIfInBounds_toArray, List.set_cons_zero, List.set_cons_succ, i64_w, i32_w]
                          rfl
                        refine pure_ (i := 19) (N := some 175) (v := ?_) (a' := ?_) #[true, true, true, true, true, true, true, true, true, true, true, true, true, true, true, true, true, true, true, true, false, false, false] rfl rfl (any_of HT_.out (by kernel_rfl)) (fun _ _ _ h => h) (Or.inl ⟨by rfl, ?_⟩) ?_ ?_
                        rotate_left
                        · intro w'
                          go_simp
                          with_reducible rfl
                        rotate_left
                        · simp only [Act.put, List.setIfInBounds_toArray, List.set_cons_zero, List.set_cons_succ, i64_w, i32_w]
                          rfl
                        refine take_ (i := 20) (N := some 176) (v := ?_) (a' := ?_) #[true, true, true, true, true, true, true, true, true, true, true, true, true, true, true, true, true, true, true, true, true, false, false] rfl rfl (take_ofW HT_.out HW_.out (by kernel_rfl)) (fun _ _ _ h => h) (Or.inl ⟨by rfl, ?_⟩) hHeld ?_ ?_
                        rotate_left
                        · rintro w' ⟨s0, s1, s2, s3, s4, s5, s6, s7, s8, s9, s10, s11, s12, s13, s14, s15, s16, s17, s18, s19⟩
                          go_simp
                          with_reducible rfl
                        rotate_left
                        · simp only [Act.put, List.setIfInBounds_toArray, List.set_cons_zero, List.set_cons_succ, i64_w, i32_w]
                          rfl
                        refine one_ (i := 21) (N := some 177) #[true, true, true, true, true, true, true, true, true, true, true, true, true, true, true, true, true, true, true, true, true, true, false] rfl rfl (one_of HT_.out (by kernel_rfl)) (by decide) (fun K hK => ?_)
                        refine goes_ Try.func27 (by kernel_rfl) rfl #[.agg #[.int .i64 x.f0.f0, .int .i64 x.f0.f1, .slice A5 x.f0.f2.length c5, .int .i64 x.f1, .int .i64 x.f2, .int .i64 x.f3, .string x.f4, .string x.f5, .int .i64 x.f6], .agg #[.int .i64 y.f0.f0, .int .i64 y.f0.f1, .slice A7 y.f0.f2.length c7, .int .i64 y.f1, .int .i64 y.f2, .int .i64 y.f3, .string y.f4, .string y.f5, .int .i64 y.f6]] (by rfl) rfl rfl (by (try simp only [List.map_toArray, List.map_cons, List.map_nil]); first | done | rfl | (simp only [List.length_drop, List.length_take]; rfl)) ?_
                        with_reducible refine (meetR_c x y A5 A7 c5 c7 _).mono ?_
                        rintro e w9 ⟨rfl, hB9⟩
                        refine ⟨_, rfl, ?_⟩
                        have HIPl := Aside0.mk (IP.to HIPk.out hB9)
                        have HO3l := Aside0.mk (Kd.R_below HO3k.out hB9)
                        have HO4l := Aside0.mk (Kd.R_below HO4k.out hB9)
                        clear hB9
                        refine hK.out _ _ (IP.s22 Y0.out Y1.out Y2.out Y3.out Y4.out Y5.out Y6.out Y7.out Y8.out HIPl.out) (fun hHeld => ?_)
                        clear hK K
                        refine norm_ (a' := ?_) ?_ ?_
                        rotate_left
                        · show Act.put _ (some 177) _ = _
                          simp only [Act.put, List.setIfInBounds_toArray, List.set_cons_zero, List.set_cons_succ, i64_w, i32_w]
                          rfl
                        refine pure_ (i := 22) (N := some 178) (v := ?_) (a' := ?_) #[true, true, true, true, true, true, true, true, true, true, true, true, true, true, true, true, true, true, true, true, true, true, true] rfl rfl (any_of HT_.out (by kernel_rfl)) (fun _ _ _ h => h) (Or.inl ⟨by rfl, ?_⟩) ?_ ?_
                        rotate_left
                        · intro w'
                          go_simp
                          with_reducible rfl
                        rotate_left
                        · simp only [Act.put, List.setIfInBounds_toArray, List.set_cons_zero, List.set_cons_succ, i64_w, i32_w]
                          rfl
                        refine done_ (done_of HT_.out (by kernel_rfl)) ?_
                        try go_wp2
                        go_meet
                        case rel => exact ⟨meetB y.f4 y.f5 x, rfl, HCL2, HIPl, HO3l, HO4l⟩
                      · have tq2 : (y.f2 == x.f2) = false := beq_eq_false_iff_ne.2 h2
                        have HCL2 := Aside0.mk (show false = clash x y from by unfold clash; rw [decide_eq_false h2, Bool.and_false, Bool.false_and])
                        clear h1 h2
                        refine start_ (n := 23) (S := (fun W => W.cell? ⟨g, 0, none⟩ = some (.int .i64 x.f0.f0) ∧ W.cell? ⟨g, 1, none⟩ = some (.int .i64 x.f0.f1) ∧ W.cell? ⟨g, 2, none⟩ = some (.slice A5 x.f0.f2.length c5) ∧ W.cell? ⟨g, 3, none⟩ = some (.int .i64 x.f1) ∧ W.cell? ⟨g, 4, none⟩ = some (.int .i64 x.f2) ∧ W.cell? ⟨g, 5, none⟩ = some (.int .i64 x.f3) ∧ W.cell? ⟨g, 6, none⟩ = some (.string x.f4) ∧ W.cell? ⟨g, 7, none⟩ = some (.string x.f5) ∧ W.cell? ⟨g, 8, none⟩ = some (.int .i64 x.f6) ∧ W.cell? ⟨w.heap.size, 3, none⟩ = some (.slice (some ad) l.length c) ∧ W.cell? (ad.add (j * 9)) = some (.int .i64 y.f0.f0) ∧ W.cell? ⟨(ad.add (j * 9)).block, (ad.add (j * 9)).off + 1, none⟩ = some (.int .i64 y.f0.f1) ∧ W.cell? ⟨(ad.add (j * 9)).block, (ad.add (j * 9)).off + 2, none⟩ = some (.slice A7 y.f0.f2.length c7) ∧ W.cell? ⟨(ad.add (j * 9)).block, (ad.add (j * 9)).off + 3, none⟩ = some (.int .i64 y.f1) ∧ W.cell? ⟨(ad.add (j * 9)).block, (ad.add (j * 9)).off + 4, none⟩ = some (.int .i64 y.f2) ∧ W.cell? ⟨(ad.add (j * 9)).block, (ad.add (j * 9)).off + 5, none⟩ = some (.int .i64 y.f3) ∧ W.cell? ⟨(ad.add (j * 9)).block, (ad.add (j * 9)).off + 6, none⟩ = some (.string y.f4) ∧ W.cell? ⟨(ad.add (j * 9)).block, (ad.add (j * 9)).off + 7, none⟩ = some (.string y.f5) ∧ W.cell? ⟨(ad.add (j * 9)).block, (ad.add (j * 9)).off + 8, none⟩ = some (.int .i64 y.f6) ∧ Aside0 (IP w g (verC Al cl (some ad) c l) (tabC x A5 c5) W))) (ds := []) #[false, false, false, false, false, false, false, false, false, false, false, false, false, false, false, false, false, false, false, false, false, false, false] (by kernel_rfl) rfl rfl (IP.s22 Y0.out Y1.out Y2.out Y3.out Y4.out Y5.out Y6.out Y7.out Y8.out HIPk.out) (fun hHeld => ?_); refine with_tabW is8.tab22 is8.bits22 (fun HT_ HW_ => ?_)
                        refine pure_ (i := 0) (N := some 156) (v := ?_) (a' := ?_) #[true, false, false, false, false, false, false, false, false, false, false, false, false, false, false, false, false, false, false, false, false, false, false] rfl rfl (any_of HT_.out (by kernel_rfl)) (fun _ _ _ h => h) (Or.inl ⟨by rfl, ?_⟩) ?_ ?_
                        rotate_left
                        · intro w'
                          go_simp
                          with_reducible rfl
                        rotate_left
                        · simp only [Act.put, List.setIfInBounds_toArray, List.set_cons_zero, List.set_cons_succ, i64_w, i32_w]
                          rfl
                        refine take_ (i := 1) (N := some 157) (v := ?_) (a' := ?_) #[true, true, false, false, false, false, false, false, false, false, false, false, false, false, false, false, false, false, false, false, false, false, false] rfl rfl (take_ofW HT_.out HW_.out (by kernel_rfl)) (fun _ _ _ h => h) (Or.inl ⟨by rfl, ?_⟩) hHeld ?_ ?_
                        rotate_left
                        · rintro w' ⟨s0, s1, s2, s3, s4, s5, s6, s7, s8, s9, s10, s11, s12, s13, s14, s15, s16, s17, s18, s19⟩
                          go_simp
                          with_reducible rfl
                        rotate_left
                        · simp only [Act.put, List.setIfInBounds_toArray, List.set_cons_zero, List.set_cons_succ, i64_w, i32_w]
                          rfl
                        refine pure_ (i := 2) (N := some 158) (v := ?_) (a' := ?_) #[true, true, true, false, false, false, false, false, false, false, false, false, false, false, false, false, false, false, false, false, false, false, false] rfl rfl (any_of HT_.out (by kernel_rfl)) (fun _ _ _ h => h) (Or.inl ⟨by rfl, ?_⟩) ?_ ?_
                        rotate_left
                        · intro w'
                          go_simp
                          with_reducible rfl
                        rotate_left
                        · simp only [Act.put, List.setIfInBounds_toArray, List.set_cons_zero, List.set_cons_succ, i64_w, i32_w]
                          rfl
                        (first | rw [tq1] | (simp only [i64_w, i32_w]; rw [tq1]) | skip)
                        refine pure_ (i := 3) (N := some 159) (v := ?_) (a' := ?_) #[true, true, true, true, false, false, false, false, false, false, false, false, false, false, false, false, false, false, false, false, false, false, false] rfl rfl (any_of HT_.out (by kernel_rfl)) (fun _ _ _ h => h) (Or.inl ⟨by rfl, ?_⟩) ?_ ?_
                        rotate_left
                        · intro w'
                          go_simp
                          with_reducible rfl
                        rotate_left
                        · simp only [Act.put, List.setIfInBounds_toArray, List.set_cons_zero, List.set_cons_succ, i64_w, i32_w]
                          rfl
                        refine pure_ (i := 4) (N := some 160) (v := ?_) (a' := ?_) #[true, true, true, true, true, false, false, false, false, false, false, false, false, false, false, false, false, false, false, false, false, false, false] rfl rfl (any_of HT_.out (by kernel_rfl)) (fun _ _ _ h => h) (Or.inl ⟨by rfl, ?_⟩) ?_ ?_
                        rotate_left
                        · intro w'
                          go_simp
                          with_reducible rfl
                        rotate_left
                        · simp only [Act.put, List.setIfInBounds_toArray, List.set_cons_zero, List.set_cons_succ, i64_w, i32_w]
                          rfl
                        refine pure_ (i := 6) (N := some 162) (v := ?_) (a' := ?_) #[true, true, true, true, true, false, true, false, false, false, false, false, false, false, false, false, false, false, false, false, false, false, false] rfl rfl (any_of HT_.out (by kernel_rfl)) (fun _ _ _ h => h) (Or.inl ⟨by rfl, ?_⟩) ?_ ?_
                        rotate_left
                        · intro w'
                          go_simp
                          with_reducible rfl
                        rotate_left
                        · simp only [Act.put, List.setIfInBounds_toArray, List.set_cons_zero, List.set_cons_succ, i64_w, i32_w]
                          rfl
                        refine take_ (i := 5) (N := some 161) (v := ?_) (a' := ?_) #[true, true, true, true, true, true, true, false, false, false, false, false, false, false, false, false, false, false, false, false, false, false, false] rfl rfl (take_ofW HT_.out HW_.out (by kernel_rfl)) (fun _ _ _ h => h) (Or.inl ⟨by rfl, ?_⟩) hHeld ?_ ?_
                        rotate_left
                        · rintro w' ⟨s0, s1, s2, s3, s4, s5, s6, s7, s8, s9, s10, s11, s12, s13, s14, s15, s16, s17, s18, s19⟩
                          go_simp
                          with_reducible rfl
                        rotate_left
                        · simp only [Act.put, List.setIfInBounds_toArray, List.set_cons_zero, List.set_cons_succ, i64_w, i32_w]
                          rfl
                        refine pure_ (i := 7) (N := some 163) (v := ?_) (a' := ?_) #[true, true, true, true, true, true, true, true, false, false, false, false, false, false, false, false, false, false, false, false, false, false, false] rfl rfl (any_of HT_.out (by kernel_rfl)) (fun _ _ _ h => h) (Or.inl ⟨by rfl, ?_⟩) ?_ ?_
                        rotate_left
                        · intro w'
                          go_simp
                          with_reducible rfl
                        rotate_left
                        · simp only [Act.put, List.setIfInBounds_toArray, List.set_cons_zero, List.set_cons_succ, i64_w, i32_w]
                          rfl
                        refine pure_ (i := 8) (N := some 164) (v := ?_) (a' := ?_) #[true, true, true, true, true, true, true, true, true, false, false, false, false, false, false, false, false, false, false, false, false, false, false] rfl rfl (any_of HT_.out (by kernel_rfl)) (fun _ _ _ h => h) (Or.inl ⟨by rfl, ?_⟩) ?_ ?_
                        rotate_left
                        · intro w'
                          go_simp
                          with_reducible rfl
                        rotate_left
                        · simp only [Act.put, List.setIfInBounds_toArray, List.set_cons_zero, List.set_cons_succ, i64_w, i32_w]
                          rfl
                        refine pure_ (i := 10) (N := some 166) (v := ?_) (a' := ?_) #[true, true, true, true, true, true, true, true, true, false, true, false, false, false, false, false, false, false, false, false, false, false, false] rfl rfl (any_of HT_.out (by kernel_rfl)) (fun _ _ _ h => h) (Or.inl ⟨by rfl, ?_⟩) ?_ ?_
                        rotate_left
                        · intro w'
                          go_simp
                          with_reducible rfl
                        rotate_left
                        · simp only [Act.put, List.setIfInBounds_toArray, List.set_cons_zero, List.set_cons_succ, i64_w, i32_w]
                          rfl
                        refine take_ (i := 9) (N := some 165) (v := ?_) (a' := ?_) #[true, true, true, true, true, true, true, true, true, true, true, false, false, false, false, false, false, false, false, false, false, false, false] rfl rfl (take_ofW HT_.out HW_.out (by kernel_rfl)) (fun _ _ _ h => h) (Or.inl ⟨by rfl, ?_⟩) hHeld ?_ ?_
                        rotate_left
                        · rintro w' ⟨s0, s1, s2, s3, s4, s5, s6, s7, s8, s9, s10, s11, s12, s13, s14, s15, s16, s17, s18, s19⟩
                          go_simp
                          with_reducible rfl
                        rotate_left
                        · simp only [Act.put, List.setIfInBounds_toArray, List.set_cons_zero, List.set_cons_succ, i64_w, i32_w]
                          rfl
                        refine take_ (i := 11) (N := some 167) (v := ?_) (a' := ?_) #[true, true, true, true, true, true, true, true, true, true, true, true, false, false, false, false, false, false, false, false, false, false, false] rfl rfl (take_ofW HT_.out HW_.out (by kernel_rfl)) (fun _ _ _ h => h) (Or.inl ⟨by rfl, ?_⟩) hHeld ?_ ?_
                        rotate_left
                        · rintro w' ⟨s0, s1, s2, s3, s4, s5, s6, s7, s8, s9, s10, s11, s12, s13, s14, s15, s16, s17, s18, s19⟩
                          go_simp
                          with_reducible rfl
                        rotate_left
                        · simp only [Act.put, List.setIfInBounds_toArray, List.set_cons_zero, List.set_cons_succ, i64_w, i32_w]
                          rfl
                        refine pure_ (i := 12) (N := some 168) (v := ?_) (a' := ?_) #[true, true, true, true, true, true, true, true, true, true, true, true, true, false, false, false, false, false, false, false, false, false, false] rfl rfl (any_of HT_.out (by kernel_rfl)) (fun _ _ _ h => h) (Or.inl ⟨by rfl, ?_⟩) ?_ ?_
                        rotate_left
                        · intro w'
                          go_simp
                          with_reducible rfl
                        rotate_left
                        · simp only [Act.put, List.setIfInBounds_toArray, List.set_cons_zero, List.set_cons_succ, i64_w, i32_w]
                          rfl
                        (first | rw [tq2] | (simp only [i64_w, i32_w]; rw [tq2]) | skip)
                        refine pure_ (i := 13) (N := some 169) (v := ?_) (a' := ?_) #[true, true, true, true, true, true, true, true, true, true, true, true, true, true, false, false, false, false, false, false, false, false, false] rfl rfl (any_of HT_.out (by kernel_rfl)) (fun _ _ _ h => h) (Or.inl ⟨by rfl, ?_⟩) ?_ ?_
                        rotate_left
                        · intro w'
                          go_simp
                          with_reducible rfl
                        rotate_left
                        · simp only [Act.put, List.setIfInBounds_toArray, List.set_cons_zero, List.set_cons_succ, i64_w, i32_w]
                          rfl
                        refine pure_ (i := 14) (N := some 170) (v := ?_) (a' := ?_) #[true, true, true, true, true, true, true, true, true, true, true, true, true, true, true, false, false, false, false, false, false, false, false] rfl rfl (any_of HT_.out (by kernel_rfl)) (fun _ _ _ h => h) (Or.inl ⟨by rfl, ?_⟩) ?_ ?_
                        rotate_left
                        · intro w'
                          go_simp
                          with_reducible rfl
                        rotate_left
                        · simp only [Act.put, List.setIfInBounds_toArray, List.set_cons_zero, List.set_cons_succ, i64_w, i32_w]
                          rfl
                        refine pure_ (i := 15) (N := some 171) (v := undef) (a' := ?_) #[true, true, true, true, true, true, true, true, true, true, true, true, true, true, true, true, false, false, false, false, false, false, false] rfl rfl (any_of HT_.out (by kernel_rfl)) (fun _ _ _ h => h) (Or.inr ⟨by rfl, rfl⟩) ?_ ?_
                        rotate_left
                        · simp only [Act.put, List.setIfInBounds_toArray, List.set_cons_zero, List.set_cons_succ, i64_w, i32_w]
                          rfl
                        refine pure_ (i := 16) (N := some 172) (v := undef) (a' := ?_) #[true, true, true, true, true, true, true, true, true, true, true, true, true, true, true, true, true, false, false, false, false, false, false] rfl rfl (any_of HT_.out (by kernel_rfl)) (fun _ _ _ h => h) (Or.inr ⟨by rfl, rfl⟩) ?_ ?_
                        rotate_left
                        · simp only [Act.put, List.setIfInBounds_toArray, List.set_cons_zero, List.set_cons_succ, i64_w, i32_w]
                          rfl
                        refine pure_ (i := 17) (N := some 173) (v := undef) (a' := ?_) #[true, true, true, true, true, true, true, true, true, true, true, true, true, true, true, true, true, true, false, false, false, false, false] rfl rfl (any_of HT_.out (by kernel_rfl)) (fun _ _ _ h => h) (Or.inr ⟨by rfl, rfl⟩) ?_ ?_
                        rotate_left
                        · simp only [Act.put, List.setIfInBounds_toArray, List.set_cons_zero, List.set_cons_succ, i64_w, i32_w]
                          rfl
                        refine pure_ (i := 18) (N := some 174) (v := undef) (a' := ?_) #[true, true, true, true, true, true, true, true, true, true, true, true, true, true, true, true, true, true, true, false, false, false, false] rfl rfl (any_of HT_.out (by kernel_rfl)) (fun _ _ _ h => h) (Or.inr ⟨by rfl, rfl⟩) ?_ ?_
                        rotate_left
                        · simp only [Act.put, List.setIfInBounds_toArray, List.set_cons_zero, List.set_cons_succ, i64_w, i32_w]
                          rfl
                        refine pure_ (i := 19) (N := some 175) (v := undef) (a' := ?_) #[true, true, true, true, true, true, true, true, true, true, true, true, true, true, true, true, true, true, true, true, false, false, false] rfl rfl (any_of HT_.out (by kernel_rfl)) (fun _ _ _ h => h) (Or.inr ⟨by rfl, rfl⟩) ?_ ?_
                        rotate_left
                        · simp only [Act.put, List.setIfInBounds_toArray, List.set_cons_zero, List.set_cons_succ, i64_w, i32_w]
                          rfl
                        refine pure_ (i := 20) (N := some 176) (v := undef) (a' := ?_) #[true, true, true, true, true, true, true, true, true, true, true, true, true, true, true, true, true, true, true, true, true, false, false] rfl rfl (any_of HT_.out (by kernel_rfl)) (fun _ _ _ h => h) (Or.inr ⟨by rfl, rfl⟩) ?_ ?_
                        rotate_left
                        · simp only [Act.put, List.setIfInBounds_toArray, List.set_cons_zero, List.set_cons_succ, i64_w, i32_w]
                          rfl
                        refine pure_ (i := 21) (N := some 177) (v := undef) (a' := ?_) #[true, true, true, true, true, true, true, true, true, true, true, true, true, true, true, true, true, true, true, true, true, true, false] rfl rfl (any_of HT_.out (by kernel_rfl)) (fun _ _ _ h => h) (Or.inr ⟨by rfl, rfl⟩) ?_ ?_
                        rotate_left
                        · simp only [Act.put, List.setIfInBounds_toArray, List.set_cons_zero, List.set_cons_succ, i64_w, i32_w]
                          rfl
                        refine pure_ (i := 22) (N := some 178) (v := ?_) (a' := ?_) #[true, true, true, true, true, true, true, true, true, true, true, true, true, true, true, true, true, true, true, true, true, true, true] rfl rfl (any_of HT_.out (by kernel_rfl)) (fun _ _ _ h => h) (Or.inl ⟨by rfl, ?_⟩) ?_ ?_
                        rotate_left
                        · intro w'
                          go_simp
                          with_reducible rfl
                        rotate_left
                        · simp only [Act.put, List.setIfInBounds_toArray, List.set_cons_zero, List.set_cons_succ, i64_w, i32_w]
                          rfl
                        refine done_ (done_of HT_.out (by kernel_rfl)) ?_
                        try go_wp2
                        go_meet
                        case rel => exact ⟨false, rfl, HCL2, HIPk, HO3k, HO4k⟩
                    · have tq1 : decide (0 < x.f2) = false := decide_eq_false h1
                      have HCL2 := Aside0.mk (show false = clash x y from by unfold clash; rw [decide_eq_false h1, Bool.false_and, Bool.false_and])
                      clear h1
                      refine start_ (n := 23) (S := (fun W => W.cell? ⟨g, 0, none⟩ = some (.int .i64 x.f0.f0) ∧ W.cell? ⟨g, 1, none⟩ = some (.int .i64 x.f0.f1) ∧ W.cell? ⟨g, 2, none⟩ = some (.slice A5 x.f0.f2.length c5) ∧ W.cell? ⟨g, 3, none⟩ = some (.int .i64 x.f1) ∧ W.cell? ⟨g, 4, none⟩ = some (.int .i64 x.f2) ∧ W.cell? ⟨g, 5, none⟩ = some (.int .i64 x.f3) ∧ W.cell? ⟨g, 6, none⟩ = some (.string x.f4) ∧ W.cell? ⟨g, 7, none⟩ = some (.string x.f5) ∧ W.cell? ⟨g, 8, none⟩ = some (.int .i64 x.f6) ∧ W.cell? ⟨w.heap.size, 3, none⟩ = some (.slice (some ad) l.length c) ∧ W.cell? (ad.add (j * 9)) = some (.int .i64 y.f0.f0) ∧ W.cell? ⟨(ad.add (j * 9)).block, (ad.add (j * 9)).off + 1, none⟩ = some (.int .i64 y.f0.f1) ∧ W.cell? ⟨(ad.add (j * 9)).block, (ad.add (j * 9)).off + 2, none⟩ = some (.slice A7 y.f0.f2.length c7) ∧ W.cell? ⟨(ad.add (j * 9)).block, (ad.add (j * 9)).off + 3, none⟩ = some (.int .i64 y.f1) ∧ W.cell? ⟨(ad.add (j * 9)).block, (ad.add (j * 9)).off + 4, none⟩ = some (.int .i64 y.f2) ∧ W.cell? ⟨(ad.add (j * 9)).block, (ad.add (j * 9)).off + 5, none⟩ = some (.int .i64 y.f3) ∧ W.cell? ⟨(ad.add (j * 9)).block, (ad.add (j * 9)).off + 6, none⟩ = some (.string y.f4) ∧ W.cell? ⟨(ad.add (j * 9)).block, (ad.add (j * 9)).off + 7, none⟩ = some (.string y.f5) ∧ W.cell? ⟨(ad.add (j * 9)).block, (ad.add (j * 9)).off + 8, none⟩ = some (.int .i64 y.f6) ∧ Aside0 (IP w g (verC Al cl (some ad) c l) (tabC x A5 c5) W))) (ds := []) #[false, false, false, false, false, false, false, false, false, false, false, false, false, false, false, false, false, false, false, false, false, false, false] (by kernel_rfl) rfl rfl (IP.s22 Y0.out Y1.out Y2.out Y3.out Y4.out Y5.out Y6.out Y7.out Y8.out HIPk.out) (fun hHeld => ?_); refine with_tabW is8.tab22 is8.bits22 (fun HT_ HW_ => ?_)
                      refine pure_ (i := 0) (N := some 156) (v := ?_) (a' := ?_) #[true, false, false, false, false, false, false, false, false, false, false, false, false, false, false, false, false, false, false, false, false, false, false] rfl rfl (any_of HT_.out (by kernel_rfl)) (fun _ _ _ h => h) (Or.inl ⟨by rfl, ?_⟩) ?_ ?_
                      rotate_left
                      · intro w'
                        go_simp
                        with_reducible rfl
                      rotate_left
                      · simp only [Act.put, List.setIfInBounds_toArray, List.set_cons_zero, List.set_cons_succ, i64_w, i32_w]
                        rfl
                      refine take_ (i := 1) (N := some 157) (v := ?_) (a' := ?_) #[true, true, false, false, false, false, false, false, false, false, false, false, false, false, false, false, false, false, false, false, false, false, false] rfl rfl (take_ofW HT_.out HW_.out (by kernel_rfl)) (fun _ _ _ h => h) (Or.inl ⟨by rfl, ?_⟩) hHeld ?_ ?_
                      rotate_left
                      · rintro w' ⟨s0, s1, s2, s3, s4, s5, s6, s7, s8, s9, s10, s11, s12, s13, s14, s15, s16, s17, s18, s19⟩
                        go_simp
                        with_reducible rfl
                      rotate_left
                      · simp only [Act.put, List.setIfInBounds_toArray, List.set_cons_zero, List.set_cons_succ, i64_w, i32_w]
                        rfl
                      refine pure_ (i := 2) (N := some 158) (v := ?_) (a' := ?_) #[true, true, true, false, false, false, false, false, false, false, false, false, false, false, false, false, false, false, false, false, false, false, false] rfl rfl (any_of HT_.out (by kernel_rfl)) (fun _ _ _ h => h) (Or.inl ⟨by rfl, ?_⟩) ?_ ?_
                      rotate_left
                      · intro w'
                        go_simp
                        with_reducible rfl
                      rotate_left
                      · simp only [Act.put, List.setIfInBounds_toArray, List.set_cons_zero, List.set_cons_succ, i64_w, i32_w]
                        rfl
                      (first | rw [tq1] | (simp only [i64_w, i32_w]; rw [tq1]) | skip)
                      refine pure_ (i := 3) (N := some 159) (v := ?_) (a' := ?_) #[true, true, true, true, false, false, false, false, false, false, false, false, false, false, false, false, false, false, false, false, false, false, false] rfl rfl (any_of HT_.out (by kernel_rfl)) (fun _ _ _ h => h) (Or.inl ⟨by rfl, ?_⟩) ?_ ?_
                      rotate_left
                      · intro w'
                        go_simp
                        with_reducible rfl
                      rotate_left
                      · simp only [Act.put, List.setIfInBounds_toArray, List.set_cons_zero, List.set_cons_succ, i64_w, i32_w]
                        rfl
                      refine pure_ (i := 4) (N := some 160) (v := undef) (a' := ?_) #[true, true, true, true, true, false, false, false, false, false, false, false, false, false, false, false, false, false, false, false, false, false, false] rfl rfl (any_of HT_.out (by kernel_rfl)) (fun _ _ _ h => h) (Or.inr ⟨by rfl, rfl⟩) ?_ ?_
                      rotate_left
                      · simp only [Act.put, List.setIfInBounds_toArray, List.set_cons_zero, List.set_cons_succ, i64_w, i32_w]
                        rfl
                      refine pure_ (i := 5) (N := some 161) (v := undef) (a' := ?_) #[true, true, true, true, true, true, false, false, false, false, false, false, false, false, false, false, false, false, false, false, false, false, false] rfl rfl (any_of HT_.out (by kernel_rfl)) (fun _ _ _ h => h) (Or.inr ⟨by rfl, rfl⟩) ?_ ?_
                      rotate_left
                      · simp only [Act.put, List.setIfInBounds_toArray, List.set_cons_zero, List.set_cons_succ, i64_w, i32_w]
                        rfl
                      refine pure_ (i := 6) (N := some 162) (v := undef) (a' := ?_) #[true, true, true, true, true, true, true, false, false, false, false, false, false, false, false, false, false, false, false, false, false, false, false] rfl rfl (any_of HT_.out (by kernel_rfl)) (fun _ _ _ h => h) (Or.inr ⟨by rfl, rfl⟩) ?_ ?_
                      rotate_left
                      · simp only [Act.put, List.setIfInBounds_toArray, List.set_cons_zero, List.set_cons_succ, i64_w, i32_w]
                        rfl
                      refine pure_ (i := 7) (N := some 163) (v := undef) (a' := ?_) #[true, true, true, true, true, true, true, true, false, false, false, false, false, false, false, false, false, false, false, false, false, false, false] rfl rfl (any_of HT_.out (by kernel_rfl)) (fun _ _ _ h => h) (Or.inr ⟨by rfl, rfl⟩) ?_ ?_
                      rotate_left
                      · simp only [Act.put, List.setIfInBounds_toArray, List.set_cons_zero, List.set_cons_succ, i64_w, i32_w]
                        rfl
                      refine pure_ (i := 8) (N := some 164) (v := undef) (a' := ?_) #[true, true, true, true, true, true, true, true, true, false, false, false, false, false, false, false, false, false, false, false, false, false, false] rfl rfl (any_of HT_.out (by kernel_rfl)) (fun _ _ _ h => h) (Or.inr ⟨by rfl, rfl⟩) ?_ ?_
                      rotate_left
                      · simp only [Act.put, List.setIfInBounds_toArray, List.set_cons_zero, List.set_cons_succ, i64_w, i32_w]
                        rfl
                      refine pure_ (i := 9) (N := some 165) (v := undef) (a' := ?_) #[true, true, true, true, true, true, true, true, true, true, false, false, false, false, false, false, false, false, false, false, false, false, false] rfl rfl (any_of HT_.out (by kernel_rfl)) (fun _ _ _ h => h) (Or.inr ⟨by rfl, rfl⟩) ?_ ?_
                      rotate_left
                      · simp only [Act.put, List.setIfInBounds_toArray, List.set_cons_zero, List.set_cons_succ, i64_w, i32_w]
                        rfl
                      refine pure_ (i := 10) (N := some 166) (v := undef) (a' := ?_) #[true, true, true, true, true, true, true, true, true, true, true, false, false, false, false, false, false, false, false, false, false, false, false] rfl rfl (any_of HT_.out (by kernel_rfl)) (fun _ _ _ h => h) (Or.inr ⟨by rfl, rfl⟩) ?_ ?_
                      rotate_left
                      · simp only [Act.put, List.setIfInBounds_toArray, List.set_cons_zero, List.set_cons_succ, i64_w, i32_w]
                        rfl
                      refine pure_ (i := 11) (N := some 167) (v := undef) (a' := ?_) #[true, true, true, true, true, true, true, true, true, true, true, true, false, false, false, false, false, false, false, false, false, false, false] rfl rfl (any_of HT_.out (by kernel_rfl)) (fun _ _ _ h => h) (Or.inr ⟨by rfl, rfl⟩) ?_ ?_
                      rotate_left
                      · simp only [Act.put, List.setIfInBounds_toArray, List.set_cons_zero, List.set_cons_succ, i64_w, i32_w]
                        rfl
                      refine pure_ (i := 12) (N := some 168) (v := undef) (a' := ?_) #[true, true, true, true, true, true, true, true, true, true, true, true, true, false, false, false, false, false, false, false, false, false, false] rfl rfl (any_of HT_.out (by kernel_rfl)) (fun _ _ _ h => h) (Or.inr ⟨by rfl, rfl⟩) ?_ ?_
                      rotate_left
                      · simp only [Act.put, List.setIfInBounds_toArray, List.set_cons_zero, List.set_cons_succ, i64_w, i32_w]
                        rfl
                      refine pure_ (i := 13) (N := some 169) (v := ?_) (a' := ?_) #[true, true, true, true, true, true, true, true, true, true, true, true, true, true, false, false, false, false, false, false, false, false, false] rfl rfl (any_of HT_.out (by kernel_rfl)) (fun _ _ _ h => h) (Or.inl ⟨by rfl, ?_⟩) ?_ ?_
                      rotate_left
                      · intro w'
                        go_simp
                        with_reducible rfl
                      rotate_left
                      · simp only [Act.put, List.setIfInBounds_toArray, List.set_cons_zero, List.set_cons_succ, i64_w, i32_w]
                        rfl
                      refine pure_ (i := 14) (N := some 170) (v := ?_) (a' := ?_) #[true, true, true, true, true, true, true, true, true, true, true, true, true, true, true, false, false, false, false, false, false, false, false] rfl rfl (any_of HT_.out (by kernel_rfl)) (fun _ _ _ h => h) (Or.inl ⟨by rfl, ?_⟩) ?_ ?_
                      rotate_left
                      · intro w'
                        go_simp
                        with_reducible rfl
                      rotate_left
                      · simp only [Act.put, List.setIfInBounds_toArray, List.set_cons_zero, List.set_cons_succ, i64_w, i32_w]
                        rfl
                      refine pure_ (i := 15) (N := some 171) (v := undef) (a' := ?_) #[true, true, true, true, true, true, true, true, true, true, true, true, true, true, true, true, false, false, false, false, false, false, false] rfl rfl (any_of HT_.out (by kernel_rfl)) (fun _ _ _ h => h) (Or.inr ⟨by rfl, rfl⟩) ?_ ?_
                      rotate_left
                      · simp only [Act.put, List.setIfInBounds_toArray, List.set_cons_zero, List.set_cons_succ, i64_w, i32_w]
                        rfl
                      refine pure_ (i := 16) (N := some 172) (v := undef) (a' := ?_) #[true, true, true, true, true, true, true, true, true, true, true, true, true, true, true, true, true, false, false, false, false, false, false] rfl rfl (any_of HT_.out (by kernel_rfl)) (fun _ _ _ h => h) (Or.inr ⟨by rfl, rfl⟩) ?_ ?_
                      rotate_left
                      · simp only [Act.put, List.setIfInBounds_toArray, List.set_cons_zero, List.set_cons_succ, i64_w, i32_w]
                        rfl
                      refine pure_ (i := 17) (N := some 173) (v := undef) (a' := ?_) #[true, true, true, true, true, true, true, true, true, true, true, true, true, true, true, true, true, true, false, false, false, false, false] rfl rfl (any_of HT_.out (by kernel_rfl)) (fun _ _ _ h => h) (Or.inr ⟨by rfl, rfl⟩) ?_ ?_
                      rotate_left
                      · simp only [Act.put, List.setIfInBounds_toArray, List.set_cons_zero, List.set_cons_succ, i64_w, i32_w]
                        rfl
                      refine pure_ (i := 18) (N := some 174) (v := undef) (a' := ?_) #[true, true, true, true, true, true, true, true, true, true, true, true, true, true, true, true, true, true, true, false, false, false, false] rfl rfl (any_of HT_.out (by kernel_rfl)) (fun _ _ _ h => h) (Or.inr ⟨by rfl, rfl⟩) ?_ ?_
                      rotate_left
                      · simp only [Act.put, List.setIfInBounds_toArray, List.set_cons_zero, List.set_cons_succ, i64_w, i32_w]
                        rfl
                      refine pure_ (i := 19) (N := some 175) (v := undef) (a' := ?_) #[true, true, true, true, true, true, true, true, true, true, true, true, true, true, true, true, true, true, true, true, false, false, false] rfl rfl (any_of HT_.out (by kernel_rfl)) (fun _ _ _ h => h) (Or.inr ⟨by rfl, rfl⟩) ?_ ?_
                      rotate_left
                      · simp only [Act.put, List.setIfInBounds_toArray, List.set_cons_zero, List.set_cons_succ, i64_w, i32_w]
                        rfl
                      refine pure_ (i := 20) (N := some 176) (v := undef) (a' := ?_) #[true, true, true, true, true, true, true, true, true, true, true, true, true, true, true, true, true, true, true, true, true, false, false] rfl rfl (any_of HT_.out (by kernel_rfl)) (fun _ _ _ h => h) (Or.inr ⟨by rfl, rfl⟩) ?_ ?_
                      rotate_left
                      · simp only [Act.put, List.setIfInBounds_toArray, List.set_cons_zero, List.set_cons_succ, i64_w, i32_w]
                        rfl
                      refine pure_ (i := 21) (N := some 177) (v := undef) (a' := ?_) #[true, true, true, true, true, true, true, true, true, true, true, true, true, true, true, true, true, true, true, true, true, true, false] rfl rfl (any_of HT_.out (by kernel_rfl)) (fun _ _ _ h => h) (Or.inr ⟨by rfl, rfl⟩) ?_ ?_
                      rotate_left
                      · simp only [Act.put, List.setIfInBounds_toArray, List.set_cons_zero, List.set_cons_succ, i64_w, i32_w]
                        rfl
                      refine pure_ (i := 22) (N := some 178) (v := ?_) (a' := ?_) #[true, true, true, true, true, true, true, true, true, true, true, true, true, true, true, true, true, true, true, true, true, true, true] rfl rfl (any_of HT_.out (by kernel_rfl)) (fun _ _ _ h => h) (Or.inl ⟨by rfl, ?_⟩) ?_ ?_
                      rotate_left
                      · intro w'
                        go_simp
                        with_reducible rfl
                      rotate_left
                      · simp only [Act.put, List.setIfInBounds_toArray, List.set_cons_zero, List.set_cons_succ, i64_w, i32_w]
                        rfl
                      refine done_ (done_of HT_.out (by kernel_rfl)) ?_
                      try go_wp2
                      go_meet
                      case rel => exact ⟨false, rfl, HCL2, HIPk, HO3k, HO4k⟩
                  case rest =>
                    clear HIPj HO3j HO4j
                    obtain ⟨b, rfl, HCB, HIP, HO3, HO4⟩ := hcut
                    cases b with
                    | true =>
                      go_wp2
                      go_ret
                      exact IsPost.no HIP.out.below
                    | false =>
                      go_wp2
                      go_roundg (i - j)
                      case measure => exact HJK.out
                      case rel => exact ⟨j + 1, by go_num, ⟨by omega⟩, ⟨by omega⟩, HO3, HO4, ⟨fun j' hj' => by rcases Nat.lt_succ_iff_lt_or_eq.1 hj' with h | h; exact HCL.out j' h; rw [h, ← HY.out]; exact HCB.out.symm⟩, HIP⟩
                · have tj : decide (j < i) = false := decide_eq_false hji
                  have tj2 : decide ((j : Int) < (i : Int)) = false := decide_eq_false (by omega)
                  have hje : j = i := by omega
                  have HVN := Aside0.mk (show VOK (l.take (i + 1)) from by rw [take_snoc47 l i hlt x HX.out]; exact VOK_snoc HV.out (by rw [List.length_take]; omega) HTX.out.1 (fun y hy => by obtain ⟨h0, e⟩ := last_take l i hlt y hy; rw [e]; exact HTX.out.2 h0) (mem_take47 l i (by omega) _ (fun j' hj' => HCL.out j' (by omega))))
                  have HPL := Aside0.mk (plotsL_len x.f0.f2)
                  clear hje
                  go_wp2
                  go_roundg (l.length - i)
                  case measure => exact HK.out
                  case rel => exact ⟨i + 1, ids ++ [x.f0.f0], all ++ plotsL x.f0.f2, by go_num, ⟨by omega⟩, ⟨by omega⟩, HO3j, HO4j, ⟨by have := HLN.out; simp; omega, by have := HLN.out; have := HPL.out; have := HTX.out.1.ps; rw [List.length_append]; omega⟩, HVN, ⟨HIPj.out.below⟩, ⟨HIPj.out.b1⟩⟩
        · have ht : decide (i < l.length) = false := decide_eq_false hlt
          have ht2 : decide ((i : Int) < (l.length : Int)) = false := decide_eq_false (by omega)
          have HVF := Aside0.mk (show VOK l from by have h := HV.out; rwa [List.take_of_length_le (by omega)] at h)
          go_wp2
          go_loopg [11] (ids.length + 1) (fun kq v11 wq => ∃ j : Nat, v11 = .int .i64 j ∧ Aside0 (j ≤ ids.length) ∧ Aside0 (ids.length - j < kq) ∧ Aside0 (kI.R 3 wq w.heap.size (fun k => some k ≠ Value.ownBlock (.slice A4 all.length d4)) (.slice A3 ids.length d3) ids) ∧ Aside0 (kI.R 3 wq w.heap.size (fun k => some k ≠ Value.ownBlock (.slice A3 ids.length d3)) (.slice A4 all.length d4) all) ∧ Aside0 (Below w.heap.size w wq) ∧ Aside0 (wq.heap[w.heap.size]? = some (.cells (verC Al cl A c l) 25 (0, 0))))
          case atStart => exact ⟨0, rfl, ⟨Nat.zero_le _⟩, ⟨by omega⟩, HO3, HO4, HB, HR⟩
          case round =>
            obtain ⟨j, rfl, HJ, HJK, HO3j, HO4j, HBj, HRj⟩ := hrel
            clear HO3 HO4 HB HR c0 c1 c2 c3
            have hjv := HJ.out
            have hin : ids.length ≤ 200 := by have := HLN.out; omega
            have han : all.length ≤ 1000000 := by have := HLN.out; omega
            by_cases hji : j < ids.length
            · have tj : decide (j < ids.length) = true := decide_eq_true hji
              have tj2 : decide ((j : Int) < (ids.length : Int)) = true := decide_eq_true (by omega)
              have hj0 : (0 : Int) ≤ (j : Int) := by omega
              have hj1 : (j : Int) < (ids.length : Int) := by omega
              have hj2 : (j : Int) ≤ 200 := by omega
              obtain ⟨ad3, e3, hx3⟩ := Kd.at_int (Kd.R_reads' HO3j.out).2.2 (j : Int) hj0 hj1
              subst e3
              obtain ⟨z, hz⟩ : ∃ z, z = rd ids (j : Int) := ⟨_, rfl⟩
              rw [← hz, Int.toNat_natCast] at hx3
              clear hz
              have c0 := blk_cell HRj.out 0
              by_cases hz : 1048576 ≤ z
              · have tz : decide (1048576 ≤ z) = true := decide_eq_true hz
                have HBk := Aside0.mk (below_drew HBj.out)
                go_wp2
                go_region
                go_wp2
                go_ret
                exact IsPost.no HBk.out
              · have tz : decide (1048576 ≤ z) = false := decide_eq_false hz
                have HBk := Aside0.mk (below_drew HBj.out)
                have HO3k := Aside0.mk (Kd.R_drew HO3j.out)
                have HO4k := Aside0.mk (Kd.R_drew HO4j.out)
                have HRk := Aside0.mk (blk_drew HRj.out)
                go_wp2
                go_region
                go_wp2
                go_roundg (ids.length - j)
                case measure => exact HJK.out
                case rel => exact ⟨j + 1, by go_num, ⟨by omega⟩, ⟨by omega⟩, HO3k, HO4k, HBk, HRk⟩
            · have tj : decide (j < ids.length) = false := decide_eq_false hji
              have tj2 : decide ((j : Int) < (ids.length : Int)) = false := decide_eq_false (by omega)
              obtain ⟨bu, hbu⟩ := un_c ids (by omega)
              obtain ⟨bv, hbv⟩ := un_c all han
              have HBU := Aside0.mk hbu
              have HBV := Aside0.mk hbv
              clear hbu hbv
              cases bu with
              | false =>
                go_wp2_with (first | (go_at_call 28; with_reducible refine (HBU.out A3 d3 _ ?_ ?_).mono ?_; (exact (Kd.R_reads' HO3j.out).2.2); (exact (Kd.R_reads' HO3j.out).2.1); rintro e w9 ⟨rfl, hB9⟩; have HB9 := Aside0.mk (below_step HBj.out hB9); have HO4n := Aside0.mk (Kd.C_below (Kd.R_reads' HO4j.out).2.2 hB9); clear hB9))
                go_ret
                exact IsPost.no HB9.out
              | true =>
                by_cases h511 : all.length ≤ 511
                · have t511 : decide ((all.length : Int) ≤ 511) = true := decide_eq_true (by omega)
                  go_wp2_with (first | (go_at_call 28; with_reducible refine (HBU.out A3 d3 _ ?_ ?_).mono ?_; (exact (Kd.R_reads' HO3j.out).2.2); (exact (Kd.R_reads' HO3j.out).2.1); rintro e w9 ⟨rfl, hB9⟩; have HB9 := Aside0.mk (below_step HBj.out hB9); have HO4n := Aside0.mk (Kd.C_below (Kd.R_reads' HO4j.out).2.2 hB9); clear hB9) | (go_at_call 28; with_reducible refine (HBV.out A4 d4 _ ?_ ?_).mono ?_; (exact HO4n.out); (exact (Kd.R_reads' HO4j.out).2.1); rintro e w10 ⟨rfl, hB10⟩; have HB10 := Aside0.mk (below_step HB9.out hB10); clear hB10))
                  go_ret
                  exact ⟨_, rfl, fun _ => HVF.out, HB10.out⟩
                · have t511 : decide ((all.length : Int) ≤ 511) = false := decide_eq_false (by omega)
                  go_wp2_with (first | (go_at_call 28; with_reducible refine (HBU.out A3 d3 _ ?_ ?_).mono ?_; (exact (Kd.R_reads' HO3j.out).2.2); (exact (Kd.R_reads' HO3j.out).2.1); rintro e w9 ⟨rfl, hB9⟩; have HB9 := Aside0.mk (below_step HBj.out hB9); have HO4n := Aside0.mk (Kd.C_below (Kd.R_reads' HO4j.out).2.2 hB9); clear hB9))
                  go_ret
                  exact IsPost.no HB9.out
  · have t128 : decide ((128 : Int) < (l.length : Int)) = true := decide_eq_true (by omega)
    go_enter Try.func8, Try.ntmps8
    go_wp2_with (first | (go_at_call 23; refine (from_t _ _ _ ?_ ?_ _).mono ?_; (decide); (decide); rintro e w2 ⟨rfl, hB2⟩; have n0 := Aside0.mk (below_step HB.out hB2); have n1 := Aside0.mk (blk_below HR.out hB2); clear HB HR hB2; have HB := n0; have HR := n1; clear n0 n1; have c0 := blk_cell HR.out 0; have c1 := blk_cell HR.out 1; have c2 := blk_cell HR.out 2; have c3 := blk_cell HR.out 3))
    go_ret
    exact IsPost.no HB.out
end Go.Proofs.Ytgnmdhjnpbnacaa.PB
end
section
set_option linter.unusedVariables false
set_option linter.unusedSimpArgs false
namespace Go.Proofs.Ytgnmdhjnpbnacaa.PB
open Go.RowKit Go.Proofs.YtgnmdhjnpbnacaaW.PrintWords Go.Proofs.YtgnmdhjnpbnacaaW.PrintLast Go.Proofs.YtgnmdhjnpbnacaaW.PrintMore
def SomeI (w : World) (e : Ending) (w' : World) : Prop := ∃ r : Int, e = .returned (.int .i64 r) ∧ Below w.heap.size w w'
theorem isnan_c (x : Int) (w : World) : Calls Try.prog 51 #[.int .i64 x] w fun e w' => e = .returned (.bool false) ∧ w = w' := by
  have t1 : (x == x) = true := beq_self_eq_true x
  go_enter Try.func51, Try.ntmps51
  go_wp2
  go_ret
  exact ⟨rfl, rfl⟩
set_option maxHeartbeats 2000000 in
theorem cmpI_c (x y : Int) (w : World) : Calls Try.prog 46 #[.int .i64 x, .int .i64 y] w (SomeI w) := by
  by_cases h : x < y
  · have t1 : decide (x < y) = true := decide_eq_true h
    clear h
    go_enter Try.func46, Try.ntmps46
    go_wp2_with (first | (go_at_call 51; refine (isnan_c _ _).mono ?_; rintro e w' ⟨rfl, rfl⟩))
    go_ret
    exact ⟨_, rfl, Below.refl _ _⟩
  · have t1 : decide (x < y) = false := decide_eq_false h
    by_cases h2 : y < x
    · have t2 : decide (y < x) = true := decide_eq_true h2
      clear h h2
      go_enter Try.func46, Try.ntmps46
      go_wp2_with (first | (go_at_call 51; refine (isnan_c _ _).mono ?_; rintro e w' ⟨rfl, rfl⟩))
      go_ret
      exact ⟨_, rfl, Below.refl _ _⟩
    · have t2 : decide (y < x) = false := decide_eq_false h2
      clear h h2
      go_enter Try.func46, Try.ntmps46
      go_wp2_with (first | (go_at_call 51; refine (isnan_c _ _).mono ?_; rintro e w' ⟨rfl, rfl⟩))
      go_ret
      exact ⟨_, rfl, Below.refl _ _⟩
theorem cmpS50_c (a b : ByteArray) (w : World) : Calls Try.prog 50 #[.string a, .string b] w (SomeI w) := by
  go_enter Try.func50, Try.ntmps50
  go_wp2
  rw [run_callFunc_extern Try.func54 (by kernel_rfl) (by kernel_rfl) (by kernel_rfl) (e := Extern.BytealgCompare.compare) (by kernel_rfl), Lib.run_compareString]
  simp only [Result.andThen]
  rw [Oper.upon_value]
  go_wp2
  go_ret
  exact ⟨_, rfl, Below.refl _ _⟩
theorem cmpS_c (a b : ByteArray) (w : World) : Calls Try.prog 45 #[.string a, .string b] w (SomeI w) := by
  go_enter Try.func45, Try.ntmps45
  go_wp2_with (first | (go_at_call 50; refine (cmpS50_c _ _ _).mono ?_; rintro e w2 ⟨r, rfl, hB2⟩; have HB2 := Aside0.mk hB2; clear hB2))
  go_ret
  exact ⟨_, rfl, HB2.out⟩
set_option maxHeartbeats 4000000 in
theorem or_c (A : Option Addr) (c : Nat) (xs : List Int) (w : World) (hC : kI.C w A xs.length xs) (hl : xs.length ≤ 100) :
    Calls Try.prog 44 #[.slice A xs.length c] w (SomeI w) := by
  have HC := Aside0.mk hC
  have HL := Aside0.mk hl
  clear hC hl
  go_enter Try.func44, Try.ntmps44
  go_wp2
  go_loopg [8] (xs.length + 1) (fun kq v8 wr => ∃ i : Nat, v8 = .int .i64 i ∧ Aside0 (i ≤ xs.length) ∧ Aside0 (xs.length - i < kq) ∧ Aside0 (Below w.heap.size w wr))
  case atStart => exact ⟨0, rfl, ⟨Nat.zero_le _⟩, ⟨by omega⟩, ⟨Below.refl _ _⟩⟩
  case round =>
    obtain ⟨i, rfl, HI, HK, HB⟩ := hrel
    have hi := HI.out
    by_cases hlt : i < xs.length
    · have ht : decide (i < xs.length) = true := decide_eq_true hlt
      have ht2 : decide ((i : Int) < (xs.length : Int)) = true := decide_eq_true (by omega)
      have h0 : (0 : Int) ≤ (i : Int) := by omega
      have h1 : (i : Int) < (xs.length : Int) := by omega
      have h2 : (i : Int) ≤ 100 := by have := HL.out; omega
      obtain ⟨ad, e3, hx⟩ := Kd.at_int (Kd.C_below HC.out HB.out) (i : Int) h0 h1
      subst e3
      obtain ⟨z, hz⟩ : ∃ z, z = rd xs (i : Int) := ⟨_, rfl⟩
      rw [← hz, Int.toNat_natCast] at hx
      clear hz
      by_cases hz : z = 0
      · have tz : (z == 0) = true := beq_iff_eq.2 hz
        clear hz
        go_wp2
        go_roundg (xs.length - i)
        case measure => exact HK.out
        case rel => exact ⟨i + 1, by go_num, ⟨by omega⟩, ⟨by omega⟩, HB⟩
      · have tz : (z == 0) = false := beq_eq_false_iff_ne.2 hz
        clear hz
        go_wp2
        go_ret
        exact ⟨_, rfl, HB.out⟩
    · have ht : decide (i < xs.length) = false := decide_eq_false hlt
      have ht2 : decide ((i : Int) < (xs.length : Int)) = false := decide_eq_false (by omega)
      go_wp2
      go_ret
      exact ⟨_, rfl, HB.out⟩
end Go.Proofs.Ytgnmdhjnpbnacaa.PB
end
section
set_option linter.unusedVariables false
set_option linter.unusedSimpArgs false
namespace Go.Proofs.Ytgnmdhjnpbnacaa.PB
open Go.RowKit Go.Proofs.YtgnmdhjnpbnacaaW.PrintWords Go.Proofs.YtgnmdhjnpbnacaaW.PrintLast Go.Proofs.YtgnmdhjnpbnacaaW.PrintMore
theorem or2_c (r1 r2 : Int) (g : Nat) (W : World) (h : W.heap[g]? = some (.cells #[.int .i64 r1, .int .i64 r2] 3 (0, 0))) : Calls Try.prog 44 #[.slice (some ⟨g, 0, none⟩) 2 2] W (SomeI W) := by
  refine or_c (some ⟨g, 0, none⟩) 2 [r1, r2] W ⟨rfl, by simp, fun _ => ⟨⟨g, 0, none⟩, rfl, ?_⟩⟩ (by simp)
  intro j p hj
  have hadd : ∀ k : Nat, (⟨g, 0, none⟩ : Addr).add k = ⟨g, k, none⟩ := fun k => by simp [Addr.add]; intro h; exact h.symm
  have hj2 : j < 2 := (List.getElem?_eq_some_iff.mp hj).1
  refine ⟨[.int .i64 p], rfl, rfl, ?_⟩
  intro i u hu
  have hi : i < 1 := (List.getElem?_eq_some_iff.mp hu).1
  obtain rfl : i = 0 := by omega
  rw [hadd]
  rcases (show j = 0 ∨ j = 1 from by omega) with rfl | rfl
  · have e := Option.some.inj hj
    subst e
    exact (blk_cell h 0).trans hu
  · have e := Option.some.inj hj
    subst e
    exact (blk_cell h 1).trans hu
/-- the two boxes that compare reads -/
structure CP (w0 : World) (g1 g2 : Nat) (b1 b2 : Array Value) (W : World) : Prop where
  below : Below w0.heap.size w0 W
  b1 : W.heap[g1]? = some (.cells b1 47 (0, 0))
  b2 : W.heap[g2]? = some (.cells b2 47 (0, 0))
theorem CP.to {w0 : World} {g1 g2 : Nat} {b1 b2 : Array Value} {W W2 : World} (hB : Below W.heap.size W W2) (h : CP w0 g1 g2 b1 b2 W) : CP w0 g1 g2 b1 b2 W2 := ⟨below_step h.below hB, blk_below h.b1 hB, blk_below h.b2 hB⟩
theorem CP.drew {w0 : World} {g1 g2 : Nat} {b1 b2 : Array Value} {W : World} (h : CP w0 g1 g2 b1 b2 W) : CP w0 g1 g2 b1 b2 W.drew := h.to (below_drew (Below.refl _ _))
theorem CP.alloc {w0 : World} {g1 g2 : Nat} {b1 b2 : Array Value} {W : World} (o : Obj) (h : CP w0 g1 g2 b1 b2 W) : CP w0 g1 g2 b1 b2 (W.alloc o) := h.to (below_alloc (Below.refl _ _) o)
theorem CP.conj {w : World} {g1 g2 : Nat} {x y : S47} {A5 A6 : Option Addr} {c5 c6 : Nat} {W : World} (h : CP w g1 g2 (tabC x A5 c5) (tabC y A6 c6) W) : W.cell? ⟨g1, 6, none⟩ = some (.string x.f4) ∧ W.cell? ⟨g2, 6, none⟩ = some (.string y.f4) ∧ W.cell? ⟨g1, 0, none⟩ = some (.int .i64 x.f0.f0) ∧ W.cell? ⟨g2, 0, none⟩ = some (.int .i64 y.f0.f0) ∧ Aside0 (CP w g1 g2 (tabC x A5 c5) (tabC y A6 c6) W) := ⟨blk_cell h.b1 6, blk_cell h.b2 6, blk_cell h.b1 0, blk_cell h.b2 0, ⟨h⟩⟩
theorem CP.of {w : World} {g1 g2 : Nat} {x y : S47} {A5 A6 : Option Addr} {c5 c6 : Nat} {W : World} (h : W.cell? ⟨g1, 6, none⟩ = some (.string x.f4) ∧ W.cell? ⟨g2, 6, none⟩ = some (.string y.f4) ∧ W.cell? ⟨g1, 0, none⟩ = some (.int .i64 x.f0.f0) ∧ W.cell? ⟨g2, 0, none⟩ = some (.int .i64 y.f0.f0) ∧ Aside0 (CP w g1 g2 (tabC x A5 c5) (tabC y A6 c6) W)) : CP w g1 g2 (tabC x A5 c5) (tabC y A6 c6) W := h.2.2.2.2.out
set_option maxHeartbeats 8000000 in
set_option maxRecDepth 100000 in
theorem cmp30_c (x y : S47) (A5 A6 : Option Addr) (c5 c6 : Nat) (w : World) :
    Calls Try.prog 30 #[.agg #[], .agg #[.int .i64 x.f0.f0, .int .i64 x.f0.f1, .slice A5 x.f0.f2.length c5, .int .i64 x.f1, .int .i64 x.f2, .int .i64 x.f3, .string x.f4, .string x.f5, .int .i64 x.f6], .agg #[.int .i64 y.f0.f0, .int .i64 y.f0.f1, .slice A6 y.f0.f2.length c6, .int .i64 y.f1, .int .i64 y.f2, .int .i64 y.f3, .string y.f4, .string y.f5, .int .i64 y.f6]] w (SomeI w) := by
  have HC := Aside0.mk (show CP w (w.heap.size + 1) (w.heap.size + 2) (tabC x A5 c5) (tabC y A6 c6) (((w.alloc (.cells #[] 67)).alloc (.cells #[.int .i64 x.f0.f0, .int .i64 x.f0.f1, .slice A5 x.f0.f2.length c5, .int .i64 x.f1, .int .i64 x.f2, .int .i64 x.f3, .string x.f4, .string x.f5, .int .i64 x.f6] 47)).alloc (.cells #[.int .i64 y.f0.f0, .int .i64 y.f0.f1, .slice A6 y.f0.f2.length c6, .int .i64 y.f1, .int .i64 y.f2, .int .i64 y.f3, .string y.f4, .string y.f5, .int .i64 y.f6] 47)) from ⟨below_alloc (below_alloc (below_alloc (Below.refl _ _) _) _) _, blk_alloc (by have h := blk_new (w.alloc (.cells #[] 67)) (.cells #[.int .i64 x.f0.f0, .int .i64 x.f0.f1, .slice A5 x.f0.f2.length c5, .int .i64 x.f1, .int .i64 x.f2, .int .i64 x.f3, .string x.f4, .string x.f5, .int .i64 x.f6] 47); rwa [show (w.alloc (.cells #[] 67)).heap.size = w.heap.size + 1 from by simp] at h) _, by have h := blk_new ((w.alloc (.cells #[] 67)).alloc (.cells #[.int .i64 x.f0.f0, .int .i64 x.f0.f1, .slice A5 x.f0.f2.length c5, .int .i64 x.f1, .int .i64 x.f2, .int .i64 x.f3, .string x.f4, .string x.f5, .int .i64 x.f6] 47)) (.cells #[.int .i64 y.f0.f0, .int .i64 y.f0.f1, .slice A6 y.f0.f2.length c6, .int .i64 y.f1, .int .i64 y.f2, .int .i64 y.f3, .string y.f4, .string y.f5, .int .i64 y.f6] 47); rwa [show ((w.alloc (.cells #[] 67)).alloc (.cells #[.int .i64 x.f0.f0, .int .i64 x.f0.f1, .slice A5 x.f0.f2.length c5, .int .i64 x.f1, .int .i64 x.f2, .int .i64 x.f3, .string x.f4, .string x.f5, .int .i64 x.f6] 47)).heap.size = w.heap.size + 2 from by simp] at h⟩)
  go_enter Try.func30, Try.ntmps30
  go_wp2
  go_region_held3 (fun W => W.cell? ⟨w.heap.size + 1, 6, none⟩ = some (.string x.f4) ∧ W.cell? ⟨w.heap.size + 2, 6, none⟩ = some (.string y.f4) ∧ W.cell? ⟨w.heap.size + 1, 0, none⟩ = some (.int .i64 x.f0.f0) ∧ W.cell? ⟨w.heap.size + 2, 0, none⟩ = some (.int .i64 y.f0.f0) ∧ Aside0 (CP w (w.heap.size + 1) (w.heap.size + 2) (tabC x A5 c5) (tabC y A6 c6) W)) (first | exact CP.conj (CP.drew HC.out) | exact CP.conj (CP.of (by assumption)) | exact CP.conj (CP.to (by assumption) (CP.of (by assumption))) | exact CP.conj (CP.alloc _ (CP.of (by assumption))))
    (first | (go_at_call 45; refine (cmpS_c _ _ _).mono ?_; rintro e W45 ⟨r45, rfl, hB45⟩) | (go_at_call 46; refine (cmpI_c _ _ _).mono ?_; rintro e W46 ⟨r46, rfl, hB46⟩) | (go_at_call 44; refine (or2_c r45 r46 _ _ ?_).mono ?_; (exact blk_new _ _); rintro e W44 ⟨r44, rfl, hB44⟩))
  have HZ := Aside0.mk (CP.of (W := W44) (w := w) (g1 := w.heap.size + 1) (g2 := w.heap.size + 2) (x := x) (y := y) (A5 := A5) (A6 := A6) (c5 := c5) (c6 := c6) (by assumption)).below
  go_wp2
  go_ret
  exact ⟨_, rfl, HZ.out⟩
set_option maxHeartbeats 8000000 in
set_option maxRecDepth 100000 in
theorem cmp32_c (x y : S47) (A5 A6 : Option Addr) (c5 c6 : Nat) (g : Nat) (w : World) (hb : w.heap[g]? = some (.cells #[.func (Fn.func 30) #[] #[]] 64 (0, 0))) :
    Calls Try.prog 32 #[.agg #[.int .i64 x.f0.f0, .int .i64 x.f0.f1, .slice A5 x.f0.f2.length c5, .int .i64 x.f1, .int .i64 x.f2, .int .i64 x.f3, .string x.f4, .string x.f5, .int .i64 x.f6], .agg #[.int .i64 y.f0.f0, .int .i64 y.f0.f1, .slice A6 y.f0.f2.length c6, .int .i64 y.f1, .int .i64 y.f2, .int .i64 y.f3, .string y.f4, .string y.f5, .int .i64 y.f6], .pointer (some ⟨g, 0, none⟩)] w (SomeI w) := by
  have HB := Aside0.mk (below_alloc (below_alloc (Below.refl w.heap.size w) (.cells #[.int .i64 x.f0.f0, .int .i64 x.f0.f1, .slice A5 x.f0.f2.length c5, .int .i64 x.f1, .int .i64 x.f2, .int .i64 x.f3, .string x.f4, .string x.f5, .int .i64 x.f6] 47)) (.cells #[.int .i64 y.f0.f0, .int .i64 y.f0.f1, .slice A6 y.f0.f2.length c6, .int .i64 y.f1, .int .i64 y.f2, .int .i64 y.f3, .string y.f4, .string y.f5, .int .i64 y.f6] 47))
  have d0 : ∀ o, (w.alloc o).cell? ⟨g, 0, none⟩ = some (.func (Fn.func 30) #[] #[]) := fun o => (blk_cell (blk_alloc hb o) 0).trans rfl
  have d1 : ∀ o o2, ((w.alloc o).alloc o2).cell? ⟨g, 0, none⟩ = some (.func (Fn.func 30) #[] #[]) := fun o o2 => (blk_cell (blk_alloc (blk_alloc hb o) o2) 0).trans rfl
  have HGB := Aside0.mk hb
  clear hb
  go_enter Try.func32, Try.ntmps32
  go_wp2_with (first | (go_at_call 30; refine (cmp30_c x y A5 A6 c5 c6 _).mono ?_; rintro e w2 ⟨r, rfl, hB2⟩; have HB2 := Aside0.mk (below_step HB.out hB2); clear hB2))
  go_ret
  exact ⟨_, rfl, HB2.out⟩
theorem size47 : (Try.prog.info? 47).map (·.size) = some 9 := by kernel_rfl
theorem end31 {R : Ending → World → Prop} {W : World} {a : Act} {g : Nat} {cs : Array Value} (hblk : W.heap[g]? = some (.cells cs 47 (0, 0))) (hs : cs.size = 9) (h2 : a.tmps.getD 4 undef = .pointer (some ⟨g, 0, none⟩))
    (hpost : R (.returned (.agg cs)) W) (hd : a.defers = [] := by rfl) : bodyPost Try.prog Try.f31 R Exit.ret a W :=
  bodyPost_ret (v := .agg cs) (results_single (r := .cell 4 47) rfl (.cell g 47 cs (0, 0) _ h2 hblk Try.underlying47 rfl (by rw [size47, hs]) .nil)) hd hpost
/-- what MinFunc leans on, in each world it comes to. -/
structure MP (w0 : World) (g : Nat) (b5 : Array Value) (W : World) : Prop where
  below : Below w0.heap.size w0 W
  b4 : W.heap[w0.heap.size]? = some (.cells #[.int .i64 0, .int .i64 0, .slice none 0 0, .int .i64 0, .int .i64 0, .int .i64 0, .string ⟨#[]⟩, .string ⟨#[]⟩, .int .i64 0] 47 (0, 0))
  b5 : W.heap[w0.heap.size + 1]? = some (.cells b5 47 (0, 0))
  fb : W.heap[g]? = some (.cells #[.func (Fn.func 30) #[] #[]] 64 (0, 0))
theorem MP.to {w0 : World} {g : Nat} {b5 : Array Value} {W W2 : World} (h : MP w0 g b5 W) (hB : Below W.heap.size W W2) : MP w0 g b5 W2 := ⟨below_step h.below hB, blk_below h.b4 hB, blk_below h.b5 hB, blk_below h.fb hB⟩
theorem MP.drew {w0 : World} {g : Nat} {b5 : Array Value} {W : World} (h : MP w0 g b5 W) : MP w0 g b5 W.drew := h.to (below_drew (Below.refl _ _))
theorem MP.put {w0 : World} {g : Nat} {b5 b6 : Array Value} {W W2 : World} (h : MP w0 g b5 W) (hn : g < w0.heap.size) (hg : W.grownBy W2 (some (w0.heap.size + 1))) (hb : W2.heap[w0.heap.size + 1]? = some (.cells b6 47 (0, 0))) : MP w0 g b6 W2 :=
  ⟨grownB h.below hg (Nat.le_succ _), (hg.block _ (blk_lt h.b4) (by simp)).trans h.b4, hb, (hg.block _ (blk_lt h.fb) (by simp; omega)).trans h.fb⟩
theorem MP.conj {w : World} {g : Nat} {x y : S47} {ad : Addr} {i : Nat} {A5 A7 : Option Addr} {c5 c7 : Nat} {W : World} (y0 : w.cell? (ad.add (i * 9)) = some (.int .i64 x.f0.f0)) (y1 : w.cell? ⟨(ad.add (i * 9)).block, (ad.add (i * 9)).off + 1, none⟩ = some (.int .i64 x.f0.f1)) (y2 : w.cell? ⟨(ad.add (i * 9)).block, (ad.add (i * 9)).off + 2, none⟩ = some (.slice A5 x.f0.f2.length c5)) (y3 : w.cell? ⟨(ad.add (i * 9)).block, (ad.add (i * 9)).off + 3, none⟩ = some (.int .i64 x.f1)) (y4 : w.cell? ⟨(ad.add (i * 9)).block, (ad.add (i * 9)).off + 4, none⟩ = some (.int .i64 x.f2)) (y5 : w.cell? ⟨(ad.add (i * 9)).block, (ad.add (i * 9)).off + 5, none⟩ = some (.int .i64 x.f3)) (y6 : w.cell? ⟨(ad.add (i * 9)).block, (ad.add (i * 9)).off + 6, none⟩ = some (.string x.f4)) (y7 : w.cell? ⟨(ad.add (i * 9)).block, (ad.add (i * 9)).off + 7, none⟩ = some (.string x.f5)) (y8 : w.cell? ⟨(ad.add (i * 9)).block, (ad.add (i * 9)).off + 8, none⟩ = some (.int .i64 x.f6)) (h : MP w g (tabC y A7 c7) W) : W.cell? (ad.add (i * 9)) = some (.int .i64 x.f0.f0) ∧ W.cell? ⟨(ad.add (i * 9)).block, (ad.add (i * 9)).off + 1, none⟩ = some (.int .i64 x.f0.f1) ∧ W.cell? ⟨(ad.add (i * 9)).block, (ad.add (i * 9)).off + 2, none⟩ = some (.slice A5 x.f0.f2.length c5) ∧ W.cell? ⟨(ad.add (i * 9)).block, (ad.add (i * 9)).off + 3, none⟩ = some (.int .i64 x.f1) ∧ W.cell? ⟨(ad.add (i * 9)).block, (ad.add (i * 9)).off + 4, none⟩ = some (.int .i64 x.f2) ∧ W.cell? ⟨(ad.add (i * 9)).block, (ad.add (i * 9)).off + 5, none⟩ = some (.int .i64 x.f3) ∧ W.cell? ⟨(ad.add (i * 9)).block, (ad.add (i * 9)).off + 6, none⟩ = some (.string x.f4) ∧ W.cell? ⟨(ad.add (i * 9)).block, (ad.add (i * 9)).off + 7, none⟩ = some (.string x.f5) ∧ W.cell? ⟨(ad.add (i * 9)).block, (ad.add (i * 9)).off + 8, none⟩ = some (.int .i64 x.f6) ∧ W.cell? ⟨w.heap.size + 1, 0, none⟩ = some (.int .i64 y.f0.f0) ∧ W.cell? ⟨w.heap.size + 1, 1, none⟩ = some (.int .i64 y.f0.f1) ∧ W.cell? ⟨w.heap.size + 1, 2, none⟩ = some (.slice A7 y.f0.f2.length c7) ∧ W.cell? ⟨w.heap.size + 1, 3, none⟩ = some (.int .i64 y.f1) ∧ W.cell? ⟨w.heap.size + 1, 4, none⟩ = some (.int .i64 y.f2) ∧ W.cell? ⟨w.heap.size + 1, 5, none⟩ = some (.int .i64 y.f3) ∧ W.cell? ⟨w.heap.size + 1, 6, none⟩ = some (.string y.f4) ∧ W.cell? ⟨w.heap.size + 1, 7, none⟩ = some (.string y.f5) ∧ W.cell? ⟨w.heap.size + 1, 8, none⟩ = some (.int .i64 y.f6) ∧ Aside0 (MP w g (tabC y A7 c7) W) := ⟨pw_cell_below h.below y0, pw_cell_below h.below y1, pw_cell_below h.below y2, pw_cell_below h.below y3, pw_cell_below h.below y4, pw_cell_below h.below y5, pw_cell_below h.below y6, pw_cell_below h.below y7, pw_cell_below h.below y8, blk_cell h.b5 0, blk_cell h.b5 1, blk_cell h.b5 2, blk_cell h.b5 3, blk_cell h.b5 4, blk_cell h.b5 5, blk_cell h.b5 6, blk_cell h.b5 7, blk_cell h.b5 8, ⟨h⟩⟩
theorem MP.of {w : World} {g : Nat} {x y : S47} {ad : Addr} {i : Nat} {A5 A7 : Option Addr} {c5 c7 : Nat} {W : World} (h : W.cell? (ad.add (i * 9)) = some (.int .i64 x.f0.f0) ∧ W.cell? ⟨(ad.add (i * 9)).block, (ad.add (i * 9)).off + 1, none⟩ = some (.int .i64 x.f0.f1) ∧ W.cell? ⟨(ad.add (i * 9)).block, (ad.add (i * 9)).off + 2, none⟩ = some (.slice A5 x.f0.f2.length c5) ∧ W.cell? ⟨(ad.add (i * 9)).block, (ad.add (i * 9)).off + 3, none⟩ = some (.int .i64 x.f1) ∧ W.cell? ⟨(ad.add (i * 9)).block, (ad.add (i * 9)).off + 4, none⟩ = some (.int .i64 x.f2) ∧ W.cell? ⟨(ad.add (i * 9)).block, (ad.add (i * 9)).off + 5, none⟩ = some (.int .i64 x.f3) ∧ W.cell? ⟨(ad.add (i * 9)).block, (ad.add (i * 9)).off + 6, none⟩ = some (.string x.f4) ∧ W.cell? ⟨(ad.add (i * 9)).block, (ad.add (i * 9)).off + 7, none⟩ = some (.string x.f5) ∧ W.cell? ⟨(ad.add (i * 9)).block, (ad.add (i * 9)).off + 8, none⟩ = some (.int .i64 x.f6) ∧ W.cell? ⟨w.heap.size + 1, 0, none⟩ = some (.int .i64 y.f0.f0) ∧ W.cell? ⟨w.heap.size + 1, 1, none⟩ = some (.int .i64 y.f0.f1) ∧ W.cell? ⟨w.heap.size + 1, 2, none⟩ = some (.slice A7 y.f0.f2.length c7) ∧ W.cell? ⟨w.heap.size + 1, 3, none⟩ = some (.int .i64 y.f1) ∧ W.cell? ⟨w.heap.size + 1, 4, none⟩ = some (.int .i64 y.f2) ∧ W.cell? ⟨w.heap.size + 1, 5, none⟩ = some (.int .i64 y.f3) ∧ W.cell? ⟨w.heap.size + 1, 6, none⟩ = some (.string y.f4) ∧ W.cell? ⟨w.heap.size + 1, 7, none⟩ = some (.string y.f5) ∧ W.cell? ⟨w.heap.size + 1, 8, none⟩ = some (.int .i64 y.f6) ∧ Aside0 (MP w g (tabC y A7 c7) W)) : MP w g (tabC y A7 c7) W := h.2.2.2.2.2.2.2.2.2.2.2.2.2.2.2.2.2.2.out
set_option maxHeartbeats 16000000 in
set_option maxRecDepth 100000 in
theorem min_c (g : Nat) (A : Option Addr) (c : Nat) (l : List S47) (w : World) (hF : Kd.F k47 w (fun _ => True) A l.length l) (hc : l.length ≤ c) (hl : l.length ≤ 200) (h1 : 1 ≤ l.length) (hb : w.heap[g]? = some (.cells #[.func (Fn.func 30) #[] #[]] 64 (0, 0))) :
    Calls Try.prog 31 #[.slice A l.length c, .func (Fn.func 32) #[] #[.pointer (some ⟨g, 0, none⟩)]] w fun e w' => ∃ (y : S47) (A7 : Option Addr) (c7 : Nat), e = .returned (.agg #[.int .i64 y.f0.f0, .int .i64 y.f0.f1, .slice A7 y.f0.f2.length c7, .int .i64 y.f1, .int .i64 y.f2, .int .i64 y.f3, .string y.f4, .string y.f5, .int .i64 y.f6]) ∧ y ∈ l ∧ y.f0.f2.length ≤ c7 ∧ Kd.F k79 w (fun _ => True) A7 y.f0.f2.length y.f0.f2 ∧ Below w.heap.size w w' := by
  obtain ⟨x, hx⟩ : ∃ x, x = l.getD 0 z47 := ⟨_, rfl⟩
  obtain ⟨ad, A5, c5, rfl, x0, x1, x2, x3, x4, x5, x6, x7, x8, hl2, hF2⟩ := at_F47 hF 0 h1 x hx
  have had : ad.add 0 = ad := by simp [Addr.add]
  rw [Nat.zero_mul, had] at x0 x1 x2 x3 x4 x5 x6 x7 x8
  have HF := Aside0.mk hF
  have HFX := Aside0.mk hF2
  have HLX := Aside0.mk hl2
  have HGL := Aside0.mk (blk_lt hb)
  have HIN := Aside0.mk (show x ∈ l from by rw [hx, List.getD_eq_getElem?_getD, List.getElem?_eq_getElem h1]; exact List.getElem_mem _)
  have HM := Aside0.mk (show MP w g (tabC x A5 c5) ((w.alloc (.cells #[.int .i64 0, .int .i64 0, .slice none 0 0, .int .i64 0, .int .i64 0, .int .i64 0, .string ⟨#[]⟩, .string ⟨#[]⟩, .int .i64 0] 47)).alloc (.cells #[.int .i64 x.f0.f0, .int .i64 x.f0.f1, .slice A5 x.f0.f2.length c5, .int .i64 x.f1, .int .i64 x.f2, .int .i64 x.f3, .string x.f4, .string x.f5, .int .i64 x.f6] 47)) from ⟨below_alloc (below_alloc (Below.refl _ _) _) _, blk_alloc (blk_new w _) _, by have h := blk_new (w.alloc (.cells #[.int .i64 0, .int .i64 0, .slice none 0 0, .int .i64 0, .int .i64 0, .int .i64 0, .string ⟨#[]⟩, .string ⟨#[]⟩, .int .i64 0] 47)) (.cells #[.int .i64 x.f0.f0, .int .i64 x.f0.f1, .slice A5 x.f0.f2.length c5, .int .i64 x.f1, .int .i64 x.f2, .int .i64 x.f3, .string x.f4, .string x.f5, .int .i64 x.f6] 47); rwa [show (w.alloc (.cells #[.int .i64 0, .int .i64 0, .slice none 0 0, .int .i64 0, .int .i64 0, .int .i64 0, .string ⟨#[]⟩, .string ⟨#[]⟩, .int .i64 0] 47)).heap.size = w.heap.size + 1 from by simp] at h, blk_alloc (blk_alloc hb _) _⟩)
  have z0 : (0 : Int) < (l.length : Int) := by omega
  have z1 : decide (l.length < 1) = false := decide_eq_false (by omega)
  have z2 : decide ((l.length : Int) < 1) = false := decide_eq_false (by omega)
  have HL := Aside0.mk hl
  have H1 := Aside0.mk h1
  have w0 : ∀ o, (w.alloc o).cell? ad = some (.int .i64 x.f0.f0) := fun o => pw_cell_below (below_alloc (Below.refl _ _) o) x0
  have w1 : ∀ o, (w.alloc o).cell? ⟨ad.block, ad.off + 1, none⟩ = some (.int .i64 x.f0.f1) := fun o => pw_cell_below (below_alloc (Below.refl _ _) o) x1
  have w2 : ∀ o, (w.alloc o).cell? ⟨ad.block, ad.off + 2, none⟩ = some (.slice A5 x.f0.f2.length c5) := fun o => pw_cell_below (below_alloc (Below.refl _ _) o) x2
  have w3 : ∀ o, (w.alloc o).cell? ⟨ad.block, ad.off + 3, none⟩ = some (.int .i64 x.f1) := fun o => pw_cell_below (below_alloc (Below.refl _ _) o) x3
  have w4 : ∀ o, (w.alloc o).cell? ⟨ad.block, ad.off + 4, none⟩ = some (.int .i64 x.f2) := fun o => pw_cell_below (below_alloc (Below.refl _ _) o) x4
  have w5 : ∀ o, (w.alloc o).cell? ⟨ad.block, ad.off + 5, none⟩ = some (.int .i64 x.f3) := fun o => pw_cell_below (below_alloc (Below.refl _ _) o) x5
  have w6 : ∀ o, (w.alloc o).cell? ⟨ad.block, ad.off + 6, none⟩ = some (.string x.f4) := fun o => pw_cell_below (below_alloc (Below.refl _ _) o) x6
  have w7 : ∀ o, (w.alloc o).cell? ⟨ad.block, ad.off + 7, none⟩ = some (.string x.f5) := fun o => pw_cell_below (below_alloc (Below.refl _ _) o) x7
  have w8 : ∀ o, (w.alloc o).cell? ⟨ad.block, ad.off + 8, none⟩ = some (.int .i64 x.f6) := fun o => pw_cell_below (below_alloc (Below.refl _ _) o) x8
  clear hF hF2 hl2 hx hb hl h1 had x0 x1 x2 x3 x4 x5 x6 x7 x8
  go_enter Try.func31, Try.ntmps31
  go_wp2
  go_loopg [6] (l.length + 1) (fun kq v6 wr => ∃ (i : Nat) (y : S47) (A7 : Option Addr) (c7 : Nat), v6 = .int .i64 i ∧ Aside0 (1 ≤ i ∧ i ≤ l.length) ∧ Aside0 (l.length - i < kq) ∧ Aside0 (y ∈ l) ∧ Aside0 (y.f0.f2.length ≤ c7) ∧ Aside0 (Kd.F k79 w (fun _ => True) A7 y.f0.f2.length y.f0.f2) ∧ Aside0 (MP w g (tabC y A7 c7) wr))
  case atStart => exact ⟨1, x, A5, c5, rfl, ⟨Nat.le_refl _, H1.out⟩, ⟨by have := H1.out; omega⟩, HIN, HLX, HFX, HM⟩
  case round =>
    clear HIN HLX HFX HM w0 w1 w2 w3 w4 w5 w6 w7 w8
    obtain ⟨i, y, A7, c7, rfl, HI, HK, HIN, HLY, HFY, HM⟩ := hrel
    have hi := HI.out
    by_cases hlt : i < l.length
    · have ht : decide (i < l.length) = true := decide_eq_true hlt
      have ht2 : decide ((i : Int) < (l.length : Int)) = true := decide_eq_true (by omega)
      obtain ⟨x, hx⟩ : ∃ x, x = l.getD i z47 := ⟨_, rfl⟩
      obtain ⟨ad', A5, c5, he, x0, x1, x2, x3, x4, x5, x6, x7, x8, hl2, hF2⟩ := at_F47 HF.out i hlt x hx
      injection he with he
      subst he
      have HXIN := Aside0.mk (show x ∈ l from by rw [hx, List.getD_eq_getElem?_getD, List.getElem?_eq_getElem hlt]; exact List.getElem_mem _)
      have HLX := Aside0.mk hl2
      have HFX := Aside0.mk hF2
      have hi0 : (0 : Int) ≤ (i : Int) := by omega
      have hi1 : (i : Int) < (l.length : Int) := by omega
      have hi2 : (i : Int) ≤ 200 := by have := HL.out; omega
      have X0 := Aside0.mk x0
      have X1 := Aside0.mk x1
      have X2 := Aside0.mk x2
      have X3 := Aside0.mk x3
      have X4 := Aside0.mk x4
      have X5 := Aside0.mk x5
      have X6 := Aside0.mk x6
      have X7 := Aside0.mk x7
      have X8 := Aside0.mk x8
      clear hx hl2 hF2 x0 x1 x2 x3 x4 x5 x6 x7 x8
      go_upto_region 7 with fail
      go_cut [27] (fun v27 wc => ∃ b : Bool, v27 = .bool b ∧ Aside0 (MP w g (tabC y A7 c7) wc))
      case first =>
        go_region_held3 (fun W => W.cell? (ad.add (i * 9)) = some (.int .i64 x.f0.f0) ∧ W.cell? ⟨(ad.add (i * 9)).block, (ad.add (i * 9)).off + 1, none⟩ = some (.int .i64 x.f0.f1) ∧ W.cell? ⟨(ad.add (i * 9)).block, (ad.add (i * 9)).off + 2, none⟩ = some (.slice A5 x.f0.f2.length c5) ∧ W.cell? ⟨(ad.add (i * 9)).block, (ad.add (i * 9)).off + 3, none⟩ = some (.int .i64 x.f1) ∧ W.cell? ⟨(ad.add (i * 9)).block, (ad.add (i * 9)).off + 4, none⟩ = some (.int .i64 x.f2) ∧ W.cell? ⟨(ad.add (i * 9)).block, (ad.add (i * 9)).off + 5, none⟩ = some (.int .i64 x.f3) ∧ W.cell? ⟨(ad.add (i * 9)).block, (ad.add (i * 9)).off + 6, none⟩ = some (.string x.f4) ∧ W.cell? ⟨(ad.add (i * 9)).block, (ad.add (i * 9)).off + 7, none⟩ = some (.string x.f5) ∧ W.cell? ⟨(ad.add (i * 9)).block, (ad.add (i * 9)).off + 8, none⟩ = some (.int .i64 x.f6) ∧ W.cell? ⟨w.heap.size + 1, 0, none⟩ = some (.int .i64 y.f0.f0) ∧ W.cell? ⟨w.heap.size + 1, 1, none⟩ = some (.int .i64 y.f0.f1) ∧ W.cell? ⟨w.heap.size + 1, 2, none⟩ = some (.slice A7 y.f0.f2.length c7) ∧ W.cell? ⟨w.heap.size + 1, 3, none⟩ = some (.int .i64 y.f1) ∧ W.cell? ⟨w.heap.size + 1, 4, none⟩ = some (.int .i64 y.f2) ∧ W.cell? ⟨w.heap.size + 1, 5, none⟩ = some (.int .i64 y.f3) ∧ W.cell? ⟨w.heap.size + 1, 6, none⟩ = some (.string y.f4) ∧ W.cell? ⟨w.heap.size + 1, 7, none⟩ = some (.string y.f5) ∧ W.cell? ⟨w.heap.size + 1, 8, none⟩ = some (.int .i64 y.f6) ∧ Aside0 (MP w g (tabC y A7 c7) W)) (first | exact MP.conj X0.out X1.out X2.out X3.out X4.out X5.out X6.out X7.out X8.out (MP.drew HM.out) | exact MP.conj X0.out X1.out X2.out X3.out X4.out X5.out X6.out X7.out X8.out (MP.of (by assumption)) | exact MP.conj X0.out X1.out X2.out X3.out X4.out X5.out X6.out X7.out X8.out (MP.to (MP.of (by assumption)) (by assumption)))
          (first | (go_at_call 32; refine (cmp32_c x y A5 A7 c5 c7 g _ ?_).mono ?_; (exact (MP.of (by assumption)).fb); rintro e W32 ⟨r, rfl, hB32⟩))
        have HM2 := Aside0.mk (MP.of (w := w) (g := g) (x := x) (y := y) (ad := ad) (i := i) (A5 := A5) (A7 := A7) (c5 := c5) (c7 := c7) (W := W32) (by assumption))
        go_wp2_with fail
        go_meet
        case rel => exact ⟨_, rfl, HM2⟩
      case rest =>
        obtain ⟨b, rfl, HM2⟩ := hcut
        cases b with
        | true =>
          have f0 := pw_cell_below HM2.out.below X0.out
          have f1 := pw_cell_below HM2.out.below X1.out
          have f2 := pw_cell_below HM2.out.below X2.out
          have f3 := pw_cell_below HM2.out.below X3.out
          have f4 := pw_cell_below HM2.out.below X4.out
          have f5 := pw_cell_below HM2.out.below X5.out
          have f6 := pw_cell_below HM2.out.below X6.out
          have f7 := pw_cell_below HM2.out.below X7.out
          have f8 := pw_cell_below HM2.out.below X8.out
          go_wp2_with (first | ((with_reducible refine gate_store (t := 47) (p := 5) (v := .tmp 31) rfl ?_); refine store4_event (cs := #[.int .i64 x.f0.f0, .int .i64 x.f0.f1, .slice A5 x.f0.f2.length c5, .int .i64 x.f1, .int .i64 x.f2, .int .i64 x.f3, .string x.f4, .string x.f5, .int .i64 x.f6]) rfl rfl rfl rfl rfl HM2.out.b5 size47 rfl (by intro q hq; simp at hq; rcases hq with rfl | rfl | rfl | rfl | rfl | rfl | rfl | rfl | rfl <;> rfl) ?_; intro w9 hb9 hg9 hs9; have HM9 := Aside0.mk (MP.put HM2.out HGL.out hg9 hb9); clear hb9 hg9 hs9))
          go_roundg (l.length - i)
          case measure => exact HK.out
          case rel => exact ⟨i + 1, x, A5, c5, by go_num, ⟨by omega, by omega⟩, ⟨by omega⟩, HXIN, HLX, HFX, HM9⟩
        | false =>
          go_wp2
          go_roundg (l.length - i)
          case measure => exact HK.out
          case rel => exact ⟨i + 1, y, A7, c7, by go_num, ⟨by omega, by omega⟩, ⟨by omega⟩, HIN, HLY, HFY, HM2⟩
    · have ht : decide (i < l.length) = false := decide_eq_false hlt
      have ht2 : decide ((i : Int) < (l.length : Int)) = false := decide_eq_false (by omega)
      have e0 := blk_cell HM.out.b5 0
      have e1 := blk_cell HM.out.b5 1
      have e2 := blk_cell HM.out.b5 2
      have e3 := blk_cell HM.out.b5 3
      have e4 := blk_cell HM.out.b5 4
      have e5 := blk_cell HM.out.b5 5
      have e6 := blk_cell HM.out.b5 6
      have e7 := blk_cell HM.out.b5 7
      have e8 := blk_cell HM.out.b5 8
      go_wp2_with (first | ((with_reducible refine gate_store (t := 47) (p := 4) (v := .tmp 32) rfl ?_); refine store4_event (cs := #[.int .i64 y.f0.f0, .int .i64 y.f0.f1, .slice A7 y.f0.f2.length c7, .int .i64 y.f1, .int .i64 y.f2, .int .i64 y.f3, .string y.f4, .string y.f5, .int .i64 y.f6]) rfl rfl rfl rfl rfl HM.out.b4 size47 rfl (by intro q hq; simp at hq; rcases hq with rfl | rfl | rfl | rfl | rfl | rfl | rfl | rfl | rfl <;> rfl) ?_; intro w9 hb9 hg9 hs9; have HG9 := Aside0.mk hb9; have HB9 := Aside0.mk (grownB HM.out.below hg9 (Nat.le_refl _)); clear hb9 hg9 hs9))
      exact end31 HG9.out rfl rfl ⟨y, A7, c7, rfl, HIN.out, HLY.out, HFY.out, HB9.out⟩
end Go.Proofs.Ytgnmdhjnpbnacaa.PB
end
section
set_option linter.unusedVariables false
set_option linter.unusedSimpArgs false
namespace Go.Proofs.Ytgnmdhjnpbnacaa.PB
open Go.RowKit Go.Proofs.YtgnmdhjnpbnacaaW.PrintWords Go.Proofs.YtgnmdhjnpbnacaaW.PrintLast Go.Proofs.YtgnmdhjnpbnacaaW.PrintMore
theorem F_one {W : World} {g : Nat} {y : S47} {A7 : Option Addr} {c7 : Nat} (h : W.heap[g]? = some (.cells (tabC y A7 c7) 47 (0, 0))) (hl : y.f0.f2.length ≤ c7) (hF : Kd.F k79 W (fun _ => True) A7 y.f0.f2.length y.f0.f2) (li : List S47) (hli : li = [y]) : Kd.F k47 W (fun _ => True) (some ⟨g, 0, none⟩) li.length li := by
  subst hli
  intro W' hW
  have hb := (hW g trivial (blk_lt h)).trans h
  refine ⟨rfl, by simp, fun _ => ⟨⟨g, 0, none⟩, rfl, ?_⟩⟩
  intro j p hj
  have hcell : ∀ k : Nat, W'.cell? ⟨g, k, none⟩ = (tabC y A7 c7)[k]? := fun k => blk_cell hb k
  have hadd : ∀ k : Nat, (⟨g, 0, none⟩ : Addr).add k = ⟨g, k, none⟩ := fun k => by simp [Addr.add]; intro h; exact h.symm
  have hj1 : j < 1 := (List.getElem?_eq_some_iff.mp hj).1
  obtain rfl : j = 0 := by omega
  have hj2 := Option.some.inj hj
  subst hj2
  refine ⟨[.int .i64 y.f0.f0, .int .i64 y.f0.f1, .slice A7 y.f0.f2.length c7, .int .i64 y.f1, .int .i64 y.f2, .int .i64 y.f3, .string y.f4, .string y.f5, .int .i64 y.f6], rfl, k47_mk W' y hl (hF W' (fun k hk hlt => hW k hk hlt)), ?_⟩
  intro i u hu
  rw [hadd, hcell]
  rw [← hu]
  have hi : i < 9 := (List.getElem?_eq_some_iff.mp hu).1
  rcases (show i = 0 ∨ i = 1 ∨ i = 2 ∨ i = 3 ∨ i = 4 ∨ i = 5 ∨ i = 6 ∨ i = 7 ∨ i = 8 from by omega) with rfl | rfl | rfl | rfl | rfl | rfl | rfl | rfl | rfl <;> rfl
theorem around_n (A : Option Addr) (c n : Nat) (l : List S47) (w : World) (hn : n = l.length) (lo hi : ByteArray) (hlo : arL l = (lo, hi)) (hF : Kd.F k47 w (fun _ => True) A l.length l) (hc : l.length ≤ c) (hl : l.length ≤ 200) (h1 : 1 ≤ l.length) :
    Calls Try.prog 35 #[.slice A n c] w fun e w' => e = .returned (.agg #[.string lo, .string hi]) ∧ Below w.heap.size w w' := by
  subst hn
  have h2 := around_c A c l w hF hc hl h1
  rw [hlo] at h2
  exact h2
/-- what a job is made of: the tables it takes in -/
def Takes (nn : Int) (l li : List S47) : Prop := (nn = 0 ∧ li = l.filter (lvl 0)) ∨ (0 < nn ∧ ∃ y, y ∈ l.filter (lvl nn) ∧ li = [y])
def PickPost (nn : Int) (l : List S47) (w : World) (e : Ending) (w' : World) : Prop := ∃ (li : List S47) (lo hi : ByteArray) (A1 : Option Addr) (c1 : Nat) (A2 : Option Addr) (c2 : Nat), Takes nn l li ∧ 1 ≤ li.length ∧ arL li = (lo, hi) ∧ e = .returned (.tuple #[.agg #[.int .i64 nn, .slice A1 (sortI (li.map idT)).length c1, .slice A2 (sortI ((l.filter (ovP (nn + 1) lo hi)).map idT)).length c2], .bool true]) ∧ kI.C w' A1 (sortI (li.map idT)).length (sortI (li.map idT)) ∧ (sortI (li.map idT)).length ≤ c1 ∧ kI.C w' A2 (sortI ((l.filter (ovP (nn + 1) lo hi)).map idT)).length (sortI ((l.filter (ovP (nn + 1) lo hi)).map idT)) ∧ (sortI ((l.filter (ovP (nn + 1) lo hi)).map idT)).length ≤ c2 ∧ Below w.heap.size w w'
set_option maxHeartbeats 8000000 in
set_option maxRecDepth 100000 in
theorem pick_at0 (n s : Int) (vl : Value) (A : Option Addr) (c : Nat) (l : List S47) (w : World) (hq : ∀ x ∈ l, okT x) (hF : Kd.F k47 w (fun _ => True) A l.length l) (hc : l.length ≤ c) (hl : l.length ≤ 200) (rest : List Int) (h : fullTo l 3 = 0 :: rest) (li0 : List S47) (hli0 : l.filter (lvl 0) = li0) (h1i0 : 1 ≤ li0.length) :
    Calls Try.prog 10 #[.agg #[.int .i64 n, .int .i64 s, vl, .slice A l.length c]] w (PickPost 0 l w) := by
  have hm0 : li0.length ≤ 200 := by rw [← hli0]; exact Nat.le_trans (List.length_filter_le _ _) hl
  have HBA := Aside0.mk (below_alloc (below_alloc (Below.refl w.heap.size w) (.cells #[.int .i64 n, .int .i64 s, vl, .slice A l.length c] 25)) (.cells #[.int .i64 0, .slice none 0 0, .slice none 0 0] 34))
  have HG1 := Aside0.mk (blk_alloc (blk_new w (.cells #[.int .i64 n, .int .i64 s, vl, .slice A l.length c] 25)) (.cells #[.int .i64 0, .slice none 0 0, .slice none 0 0] 34))
  have HG2 := Aside0.mk (show ((w.alloc (.cells #[.int .i64 n, .int .i64 s, vl, .slice A l.length c] 25)).alloc (.cells #[.int .i64 0, .slice none 0 0, .slice none 0 0] 34)).heap[w.heap.size + 1]? = some (.cells #[.int .i64 0, .slice none 0 0, .slice none 0 0] 34 (0, 0)) from by have h := blk_new (w.alloc (.cells #[.int .i64 n, .int .i64 s, vl, .slice A l.length c] 25)) (.cells #[.int .i64 0, .slice none 0 0, .slice none 0 0] 34); rwa [show (w.alloc (.cells #[.int .i64 n, .int .i64 s, vl, .slice A l.length c] 25)).heap.size = w.heap.size + 1 from by simp] at h)
  have HF := Aside0.mk (Kd.F_alloc (Kd.F_alloc hF (.cells #[.int .i64 n, .int .i64 s, vl, .slice A l.length c] 25)) (.cells #[.int .i64 0, .slice none 0 0, .slice none 0 0] 34))
  have HQ := Aside0.mk hq
  have HE := Aside0.mk h
  have HLI := Aside0.mk hli0
  clear hq hF h hli0
  go_enter Try.func10, Try.ntmps10
  go_wp2_with (first | (go_at_call 18; with_reducible refine (full_2 n s vl A c l _ HQ.out HF.out hc hl 0 rest HE.out).mono ?_; rintro e w2 ⟨ad, m, c2, rfl, hmz0, hmz3, hc1, hB2⟩; have HB2 := Aside0.mk (below_step HBA.out hB2); have HF2 := Aside0.mk (Kd.F_below HF.out hB2); have HG12 := Aside0.mk (blk_below HG1.out hB2); have HG22 := Aside0.mk (blk_below HG2.out hB2); have e0 := blk_cell HG12.out 0; have e1 := blk_cell HG12.out 1; have e2 := blk_cell HG12.out 2; have e3 := blk_cell HG12.out 3; have hmi : (0 : Int) < (m : Int) := (by omega); have hmz : (m == 0) = false := (by rw [beq_eq_false_iff_ne]; omega); have hmz2 : ((m : Int) == 0) = false := (by rw [beq_eq_false_iff_ne]; omega); clear hB2) | (go_at_call 29; with_reducible refine (level_c 0 n s vl A c l _ HQ.out HF2.out hc hl).mono ?_; (rw [HLI.out]); rintro e w3 ⟨B3, c3, rfl, hN3, hB3⟩; have HP0 := Aside0.mk (PS.mk (below_step HB2.out hB3) (Kd.F_below HF2.out hB3) (Kd.N_F hN3) (blk_below HG12.out hB3) (blk_below HG22.out hB3)); have hc30 := Aside0.mk (Kd.N_reads' hN3).2.1; clear hB3 hN3))
  have HTK := Aside0.mk (show Takes 0 l li0 from .inl ⟨rfl, HLI.out.symm⟩)
  obtain ⟨li, hli⟩ : ∃ li, li0 = li := ⟨_, rfl⟩
  subst hli
  have HP3 := HP0
  have h1i := Aside0.mk h1i0
  have hm1 := Aside0.mk hm0
  have hc3 := hc30
  clear h1i0 hm0
  obtain ⟨⟨lo, hi⟩, hlo⟩ : ∃ s, arL li0 = s := ⟨_, rfl⟩
  have HAR := Aside0.mk hlo
  have hm2 := Aside0.mk (show li0.length ≤ 1000 from by have := hm1.out; omega)
  have hids := fun (W : World) (h : Kd.F k47 W (fun _ => True) B3 li0.length li0) => ids_c B3 c3 li0.length li0 W rfl h hc3.out hm2.out
  have har := fun (W : World) (h : Kd.F k47 W (fun _ => True) B3 li0.length li0) => around_n B3 c3 li0.length li0 W rfl lo hi HAR.out h hc3.out hm1.out h1i.out
  have hov := fun (W : World) (h : Kd.F k47 W (fun _ => True) A l.length l) => ovl_c 1 n s lo hi vl A c l W HQ.out h hc hl
  have HNE := Aside0.mk (show w.heap.size ≠ w.heap.size + 1 from Nat.ne_of_lt (Nat.lt_succ_self _))
  clear hlo hc1 e0 e1 e2 e3 hmi hmz hmz2 HB2 HF2 HG12 HG22 HG1 HG2 HBA HF HE
  go_region_held3 (fun w' => w'.cell? ⟨w.heap.size, 0, none⟩ = some (.int .i64 n) ∧ w'.cell? ⟨w.heap.size, 1, none⟩ = some (.int .i64 s) ∧ w'.cell? ⟨w.heap.size, 2, none⟩ = some vl ∧ w'.cell? ⟨w.heap.size, 3, none⟩ = some (.slice A l.length c) ∧ w'.cell? ⟨w.heap.size + 1, 0, none⟩ = some (qc w' (w.heap.size + 1) 0) ∧ w'.cell? ⟨w.heap.size + 1, 1, none⟩ = some (qc w' (w.heap.size + 1) 1) ∧ w'.cell? ⟨w.heap.size + 1, 2, none⟩ = some (qc w' (w.heap.size + 1) 2) ∧ w'.frozen? ⟨w.heap.size + 1, 0, none⟩ = false ∧ w'.frozen? ⟨w.heap.size + 1, 1, none⟩ = false ∧ w'.frozen? ⟨w.heap.size + 1, 2, none⟩ = false) (first | exact PL.conj (PS.pl (PS.drew HP3.out) HNE.out) | exact PL.conj (PS.pl (PS.to1 HP3.out (by assumption)) HNE.out) | exact PL.conj (PS.pl (PS.to (PS.to1 HP3.out (by assumption)) (by assumption)) HNE.out) | exact PL.conj (PS.pl (PS.to (PS.to (PS.to1 HP3.out (by assumption)) (by assumption)) (by assumption)) HNE.out) | exact PL.conj (PL.set (PS.pl (PS.to (PS.to (PS.to1 HP3.out (by assumption)) (by assumption)) (by assumption)) HNE.out) _ _ _))
    (first | (go_at_call 35; refine (har _ ?_).mono ?_; (first | exact PS.fi (PS.drew HP3.out) | exact PS.fi (PS.to1 HP3.out (by assumption)) | exact PS.fi (PS.to (PS.to1 HP3.out (by assumption)) (by assumption))); rintro e w5 ⟨rfl, hB5⟩) | (go_at_call 33; refine (hids _ ?_).mono ?_; (first | exact PS.fi (PS.drew HP3.out) | exact PS.fi (PS.to1 HP3.out (by assumption)) | exact PS.fi (PS.to (PS.to1 HP3.out (by assumption)) (by assumption))); rintro e w4 ⟨A4, c4, rfl, hR4, hB4⟩) | (go_at_call 34; refine (hov _ ?_).mono ?_; (first | exact PS.fl (PS.to1 HP3.out (by assumption)) | exact PS.fl (PS.to (PS.to1 HP3.out (by assumption)) (by assumption))); rintro e w6 ⟨A6, c6, rfl, hR6, hB6⟩))
  have HC4 := Aside0.mk (set3_C hR4 (below_step hB5 hB6) (blk_lt (PS.drew HP3.out).b2) (.int .i64 0) (.slice A4 (sortI (List.map idT li0)).length c4) (.slice A6 (sortI (List.map idT (List.filter (ovP 1 lo hi) l))).length c6))
  have HC6 := Aside0.mk (set3_C hR6 (Below.refl _ _) (blk_lt (PS.to (PS.to1 HP3.out hB4) hB5).b2) (.int .i64 0) (.slice A4 (sortI (List.map idT li0)).length c4) (.slice A6 (sortI (List.map idT (List.filter (ovP 1 lo hi) l))).length c6))
  have HPZ := Aside0.mk (PS.to (PS.to (PS.to1 HP3.out hB4) hB5) hB6)
  have HPB := Aside0.mk (PL.box (PS.pl HPZ.out HNE.out) (.int .i64 0) (.slice A4 (sortI (List.map idT li0)).length c4) (.slice A6 (sortI (List.map idT (List.filter (ovP 1 lo hi) l))).length c6))
  have HBZ := Aside0.mk (set3_below HPZ.out.below (Nat.le_succ _) (.int .i64 0) (.slice A4 (sortI (List.map idT li0)).length c4) (.slice A6 (sortI (List.map idT (List.filter (ovP 1 lo hi) l))).length c6))
  clear hids har hov hR4 hB4 hB5 hB6 hR6
  go_wp2
  exact end10 HPB.out rfl rfl rfl ⟨li0, lo, hi, A4, c4, A6, c6, HTK.out, h1i.out, HAR.out, rfl, HC4.out.1, HC4.out.2, HC6.out.1, HC6.out.2, HBZ.out⟩
set_option maxHeartbeats 8000000 in
set_option maxRecDepth 100000 in
theorem pick_at1 (n s : Int) (vl : Value) (A : Option Addr) (c : Nat) (l : List S47) (w : World) (hq : ∀ x ∈ l, okT x) (hF : Kd.F k47 w (fun _ => True) A l.length l) (hc : l.length ≤ c) (hl : l.length ≤ 200) (rest : List Int) (h : fullTo l 3 = 1 :: rest) (li0 : List S47) (hli0 : l.filter (lvl 1) = li0) (h1i0 : 1 ≤ li0.length) :
    Calls Try.prog 10 #[.agg #[.int .i64 n, .int .i64 s, vl, .slice A l.length c]] w (PickPost 1 l w) := by
  have hm0 : li0.length ≤ 200 := by rw [← hli0]; exact Nat.le_trans (List.length_filter_le _ _) hl
  have HBA := Aside0.mk (below_alloc (below_alloc (Below.refl w.heap.size w) (.cells #[.int .i64 n, .int .i64 s, vl, .slice A l.length c] 25)) (.cells #[.int .i64 0, .slice none 0 0, .slice none 0 0] 34))
  have HG1 := Aside0.mk (blk_alloc (blk_new w (.cells #[.int .i64 n, .int .i64 s, vl, .slice A l.length c] 25)) (.cells #[.int .i64 0, .slice none 0 0, .slice none 0 0] 34))
  have HG2 := Aside0.mk (show ((w.alloc (.cells #[.int .i64 n, .int .i64 s, vl, .slice A l.length c] 25)).alloc (.cells #[.int .i64 0, .slice none 0 0, .slice none 0 0] 34)).heap[w.heap.size + 1]? = some (.cells #[.int .i64 0, .slice none 0 0, .slice none 0 0] 34 (0, 0)) from by have h := blk_new (w.alloc (.cells #[.int .i64 n, .int .i64 s, vl, .slice A l.length c] 25)) (.cells #[.int .i64 0, .slice none 0 0, .slice none 0 0] 34); rwa [show (w.alloc (.cells #[.int .i64 n, .int .i64 s, vl, .slice A l.length c] 25)).heap.size = w.heap.size + 1 from by simp] at h)
  have HF := Aside0.mk (Kd.F_alloc (Kd.F_alloc hF (.cells #[.int .i64 n, .int .i64 s, vl, .slice A l.length c] 25)) (.cells #[.int .i64 0, .slice none 0 0, .slice none 0 0] 34))
  have HQ := Aside0.mk hq
  have HE := Aside0.mk h
  have HLI := Aside0.mk hli0
  clear hq hF h hli0
  go_enter Try.func10, Try.ntmps10
  go_wp2_with (first | (go_at_call 18; with_reducible refine (full_2 n s vl A c l _ HQ.out HF.out hc hl 1 rest HE.out).mono ?_; rintro e w2 ⟨ad, m, c2, rfl, hmz0, hmz3, hc1, hB2⟩; have HB2 := Aside0.mk (below_step HBA.out hB2); have HF2 := Aside0.mk (Kd.F_below HF.out hB2); have HG12 := Aside0.mk (blk_below HG1.out hB2); have HG22 := Aside0.mk (blk_below HG2.out hB2); have e0 := blk_cell HG12.out 0; have e1 := blk_cell HG12.out 1; have e2 := blk_cell HG12.out 2; have e3 := blk_cell HG12.out 3; have hmi : (0 : Int) < (m : Int) := (by omega); have hmz : (m == 0) = false := (by rw [beq_eq_false_iff_ne]; omega); have hmz2 : ((m : Int) == 0) = false := (by rw [beq_eq_false_iff_ne]; omega); clear hB2) | (go_at_call 29; with_reducible refine (level_c 1 n s vl A c l _ HQ.out HF2.out hc hl).mono ?_; (rw [HLI.out]); rintro e w3 ⟨B3, c3, rfl, hN3, hB3⟩; have HP0 := Aside0.mk (PS.mk (below_step HB2.out hB3) (Kd.F_below HF2.out hB3) (Kd.N_F hN3) (blk_below HG12.out hB3) (blk_below HG22.out hB3)); have hc30 := Aside0.mk (Kd.N_reads' hN3).2.1; clear hB3 hN3) | (go_at_call 31; with_reducible refine (min_c _ B3 c3 li0 _ ?_ ?_ ?_ ?_ ?_).mono ?_; (exact Kd.F_alloc HP0.out.fi _); (exact hc30.out); (exact hm0); (exact h1i0); (exact blk_new _ _); rintro e w31 ⟨y, A7, c7, rfl, hyi, hyl, hyF, hB31⟩; have HYI := Aside0.mk hyi; have HYL := Aside0.mk hyl; have HYF := Aside0.mk (Kd.F_below hyF hB31); have HP1 := Aside0.mk (PS.to HP0.out (below_step (below_alloc (Below.refl _ _) _) hB31)); clear hyi hyl hyF hB31))
  have HTK := Aside0.mk (show Takes 1 l [y] from .inr ⟨by decide, y, by rw [HLI.out]; exact HYI.out, rfl⟩)
  obtain ⟨li, hli⟩ : ∃ li, li = [y] := ⟨_, rfl⟩
  rw [← hli] at HTK
  have h1i := Aside0.mk (show 1 ≤ li.length from by rw [hli]; simp)
  have hm1 := Aside0.mk (show li.length ≤ 200 from by rw [hli]; simp)
  have hc3 := Aside0.mk (show li.length ≤ 1 from by rw [hli]; simp)
  have hn1 := Aside0.mk (show 1 = li.length from by rw [hli]; rfl)
  have HP3 := Aside0.mk (show PS w w.heap.size (w.heap.size + 1) #[.int .i64 n, .int .i64 s, vl, .slice A l.length c] #[.int .i64 0, .slice none 0 0, .slice none 0 0] A l (some ⟨w31.heap.size + 1, 0, none⟩) li ((w31.alloc (.cells #[.int .i64 y.f0.f0, .int .i64 y.f0.f1, .slice A7 y.f0.f2.length c7, .int .i64 y.f1, .int .i64 y.f2, .int .i64 y.f3, .string y.f4, .string y.f5, .int .i64 y.f6] 47)).alloc (.cells #[.int .i64 y.f0.f0, .int .i64 y.f0.f1, .slice A7 y.f0.f2.length c7, .int .i64 y.f1, .int .i64 y.f2, .int .i64 y.f3, .string y.f4, .string y.f5, .int .i64 y.f6] 47)) from ⟨below_alloc (below_alloc HP1.out.below _) _, Kd.F_alloc (Kd.F_alloc HP1.out.fl _) _, F_one (by have h := blk_new (w31.alloc (.cells #[.int .i64 y.f0.f0, .int .i64 y.f0.f1, .slice A7 y.f0.f2.length c7, .int .i64 y.f1, .int .i64 y.f2, .int .i64 y.f3, .string y.f4, .string y.f5, .int .i64 y.f6] 47)) (.cells #[.int .i64 y.f0.f0, .int .i64 y.f0.f1, .slice A7 y.f0.f2.length c7, .int .i64 y.f1, .int .i64 y.f2, .int .i64 y.f3, .string y.f4, .string y.f5, .int .i64 y.f6] 47); rwa [show (w31.alloc (.cells #[.int .i64 y.f0.f0, .int .i64 y.f0.f1, .slice A7 y.f0.f2.length c7, .int .i64 y.f1, .int .i64 y.f2, .int .i64 y.f3, .string y.f4, .string y.f5, .int .i64 y.f6] 47)).heap.size = w31.heap.size + 1 from by simp] at h) HYL.out (Kd.F_alloc (Kd.F_alloc HYF.out _) _) li hli, blk_alloc (blk_alloc HP1.out.b1 _) _, blk_alloc (blk_alloc HP1.out.b2 _) _⟩)
  clear hli hm0 h1i0
  obtain ⟨⟨lo, hi⟩, hlo⟩ : ∃ s, arL li = s := ⟨_, rfl⟩
  have HAR := Aside0.mk hlo
  have hm2 := Aside0.mk (show li.length ≤ 1000 from by have := hm1.out; omega)
  have hids := fun (W : World) (h : Kd.F k47 W (fun _ => True) (some ⟨w31.heap.size + 1, 0, none⟩) li.length li) => ids_c (some ⟨w31.heap.size + 1, 0, none⟩) 1 1 li W hn1.out h hc3.out hm2.out
  have har := fun (W : World) (h : Kd.F k47 W (fun _ => True) (some ⟨w31.heap.size + 1, 0, none⟩) li.length li) => around_n (some ⟨w31.heap.size + 1, 0, none⟩) 1 1 li W hn1.out lo hi HAR.out h hc3.out hm1.out h1i.out
  have hov := fun (W : World) (h : Kd.F k47 W (fun _ => True) A l.length l) => ovl_c 2 n s lo hi vl A c l W HQ.out h hc hl
  have HNE := Aside0.mk (show w.heap.size ≠ w.heap.size + 1 from Nat.ne_of_lt (Nat.lt_succ_self _))
  clear hlo hc1 e0 e1 e2 e3 hmi hmz hmz2 HB2 HF2 HG12 HG22 HG1 HG2 HBA HF HE
  go_region_held3 (fun w' => w'.cell? ⟨w.heap.size, 0, none⟩ = some (.int .i64 n) ∧ w'.cell? ⟨w.heap.size, 1, none⟩ = some (.int .i64 s) ∧ w'.cell? ⟨w.heap.size, 2, none⟩ = some vl ∧ w'.cell? ⟨w.heap.size, 3, none⟩ = some (.slice A l.length c) ∧ w'.cell? ⟨w.heap.size + 1, 0, none⟩ = some (qc w' (w.heap.size + 1) 0) ∧ w'.cell? ⟨w.heap.size + 1, 1, none⟩ = some (qc w' (w.heap.size + 1) 1) ∧ w'.cell? ⟨w.heap.size + 1, 2, none⟩ = some (qc w' (w.heap.size + 1) 2) ∧ w'.frozen? ⟨w.heap.size + 1, 0, none⟩ = false ∧ w'.frozen? ⟨w.heap.size + 1, 1, none⟩ = false ∧ w'.frozen? ⟨w.heap.size + 1, 2, none⟩ = false) (first | exact PL.conj (PS.pl (PS.drew HP3.out) HNE.out) | exact PL.conj (PS.pl (PS.to1 HP3.out (by assumption)) HNE.out) | exact PL.conj (PS.pl (PS.to (PS.to1 HP3.out (by assumption)) (by assumption)) HNE.out) | exact PL.conj (PS.pl (PS.to (PS.to (PS.to1 HP3.out (by assumption)) (by assumption)) (by assumption)) HNE.out) | exact PL.conj (PL.set (PS.pl (PS.to (PS.to (PS.to1 HP3.out (by assumption)) (by assumption)) (by assumption)) HNE.out) _ _ _))
    (first | (go_at_call 35; refine (har _ ?_).mono ?_; (first | exact PS.fi (PS.drew HP3.out) | exact PS.fi (PS.to1 HP3.out (by assumption)) | exact PS.fi (PS.to (PS.to1 HP3.out (by assumption)) (by assumption))); rintro e w5 ⟨rfl, hB5⟩) | (go_at_call 33; refine (hids _ ?_).mono ?_; (first | exact PS.fi (PS.drew HP3.out) | exact PS.fi (PS.to1 HP3.out (by assumption)) | exact PS.fi (PS.to (PS.to1 HP3.out (by assumption)) (by assumption))); rintro e w4 ⟨A4, c4, rfl, hR4, hB4⟩) | (go_at_call 34; refine (hov _ ?_).mono ?_; (first | exact PS.fl (PS.to1 HP3.out (by assumption)) | exact PS.fl (PS.to (PS.to1 HP3.out (by assumption)) (by assumption))); rintro e w6 ⟨A6, c6, rfl, hR6, hB6⟩))
  have HC4 := Aside0.mk (set3_C hR4 (below_step hB5 hB6) (blk_lt (PS.drew HP3.out).b2) (.int .i64 1) (.slice A4 (sortI (List.map idT li)).length c4) (.slice A6 (sortI (List.map idT (List.filter (ovP 2 lo hi) l))).length c6))
  have HC6 := Aside0.mk (set3_C hR6 (Below.refl _ _) (blk_lt (PS.to (PS.to1 HP3.out hB4) hB5).b2) (.int .i64 1) (.slice A4 (sortI (List.map idT li)).length c4) (.slice A6 (sortI (List.map idT (List.filter (ovP 2 lo hi) l))).length c6))
  have HPZ := Aside0.mk (PS.to (PS.to (PS.to1 HP3.out hB4) hB5) hB6)
  have HPB := Aside0.mk (PL.box (PS.pl HPZ.out HNE.out) (.int .i64 1) (.slice A4 (sortI (List.map idT li)).length c4) (.slice A6 (sortI (List.map idT (List.filter (ovP 2 lo hi) l))).length c6))
  have HBZ := Aside0.mk (set3_below HPZ.out.below (Nat.le_succ _) (.int .i64 1) (.slice A4 (sortI (List.map idT li)).length c4) (.slice A6 (sortI (List.map idT (List.filter (ovP 2 lo hi) l))).length c6))
  clear hids har hov hR4 hB4 hB5 hB6 hR6
  go_wp2
  exact end10 HPB.out rfl rfl rfl ⟨li, lo, hi, A4, c4, A6, c6, HTK.out, h1i.out, HAR.out, rfl, HC4.out.1, HC4.out.2, HC6.out.1, HC6.out.2, HBZ.out⟩
set_option maxHeartbeats 8000000 in
set_option maxRecDepth 100000 in
theorem pick_at2 (n s : Int) (vl : Value) (A : Option Addr) (c : Nat) (l : List S47) (w : World) (hq : ∀ x ∈ l, okT x) (hF : Kd.F k47 w (fun _ => True) A l.length l) (hc : l.length ≤ c) (hl : l.length ≤ 200) (rest : List Int) (h : fullTo l 3 = 2 :: rest) (li0 : List S47) (hli0 : l.filter (lvl 2) = li0) (h1i0 : 1 ≤ li0.length) :
    Calls Try.prog 10 #[.agg #[.int .i64 n, .int .i64 s, vl, .slice A l.length c]] w (PickPost 2 l w) := by
  have hm0 : li0.length ≤ 200 := by rw [← hli0]; exact Nat.le_trans (List.length_filter_le _ _) hl
  have HBA := Aside0.mk (below_alloc (below_alloc (Below.refl w.heap.size w) (.cells #[.int .i64 n, .int .i64 s, vl, .slice A l.length c] 25)) (.cells #[.int .i64 0, .slice none 0 0, .slice none 0 0] 34))
  have HG1 := Aside0.mk (blk_alloc (blk_new w (.cells #[.int .i64 n, .int .i64 s, vl, .slice A l.length c] 25)) (.cells #[.int .i64 0, .slice none 0 0, .slice none 0 0] 34))
  have HG2 := Aside0.mk (show ((w.alloc (.cells #[.int .i64 n, .int .i64 s, vl, .slice A l.length c] 25)).alloc (.cells #[.int .i64 0, .slice none 0 0, .slice none 0 0] 34)).heap[w.heap.size + 1]? = some (.cells #[.int .i64 0, .slice none 0 0, .slice none 0 0] 34 (0, 0)) from by have h := blk_new (w.alloc (.cells #[.int .i64 n, .int .i64 s, vl, .slice A l.length c] 25)) (.cells #[.int .i64 0, .slice none 0 0, .slice none 0 0] 34); rwa [show (w.alloc (.cells #[.int .i64 n, .int .i64 s, vl, .slice A l.length c] 25)).heap.size = w.heap.size + 1 from by simp] at h)
  have HF := Aside0.mk (Kd.F_alloc (Kd.F_alloc hF (.cells #[.int .i64 n, .int .i64 s, vl, .slice A l.length c] 25)) (.cells #[.int .i64 0, .slice none 0 0, .slice none 0 0] 34))
  have HQ := Aside0.mk hq
  have HE := Aside0.mk h
  have HLI := Aside0.mk hli0
  clear hq hF h hli0
  go_enter Try.func10, Try.ntmps10
  go_wp2_with (first | (go_at_call 18; with_reducible refine (full_2 n s vl A c l _ HQ.out HF.out hc hl 2 rest HE.out).mono ?_; rintro e w2 ⟨ad, m, c2, rfl, hmz0, hmz3, hc1, hB2⟩; have HB2 := Aside0.mk (below_step HBA.out hB2); have HF2 := Aside0.mk (Kd.F_below HF.out hB2); have HG12 := Aside0.mk (blk_below HG1.out hB2); have HG22 := Aside0.mk (blk_below HG2.out hB2); have e0 := blk_cell HG12.out 0; have e1 := blk_cell HG12.out 1; have e2 := blk_cell HG12.out 2; have e3 := blk_cell HG12.out 3; have hmi : (0 : Int) < (m : Int) := (by omega); have hmz : (m == 0) = false := (by rw [beq_eq_false_iff_ne]; omega); have hmz2 : ((m : Int) == 0) = false := (by rw [beq_eq_false_iff_ne]; omega); clear hB2) | (go_at_call 29; with_reducible refine (level_c 2 n s vl A c l _ HQ.out HF2.out hc hl).mono ?_; (rw [HLI.out]); rintro e w3 ⟨B3, c3, rfl, hN3, hB3⟩; have HP0 := Aside0.mk (PS.mk (below_step HB2.out hB3) (Kd.F_below HF2.out hB3) (Kd.N_F hN3) (blk_below HG12.out hB3) (blk_below HG22.out hB3)); have hc30 := Aside0.mk (Kd.N_reads' hN3).2.1; clear hB3 hN3) | (go_at_call 31; with_reducible refine (min_c _ B3 c3 li0 _ ?_ ?_ ?_ ?_ ?_).mono ?_; (exact Kd.F_alloc HP0.out.fi _); (exact hc30.out); (exact hm0); (exact h1i0); (exact blk_new _ _); rintro e w31 ⟨y, A7, c7, rfl, hyi, hyl, hyF, hB31⟩; have HYI := Aside0.mk hyi; have HYL := Aside0.mk hyl; have HYF := Aside0.mk (Kd.F_below hyF hB31); have HP1 := Aside0.mk (PS.to HP0.out (below_step (below_alloc (Below.refl _ _) _) hB31)); clear hyi hyl hyF hB31))
  have HTK := Aside0.mk (show Takes 2 l [y] from .inr ⟨by decide, y, by rw [HLI.out]; exact HYI.out, rfl⟩)
  obtain ⟨li, hli⟩ : ∃ li, li = [y] := ⟨_, rfl⟩
  rw [← hli] at HTK
  have h1i := Aside0.mk (show 1 ≤ li.length from by rw [hli]; simp)
  have hm1 := Aside0.mk (show li.length ≤ 200 from by rw [hli]; simp)
  have hc3 := Aside0.mk (show li.length ≤ 1 from by rw [hli]; simp)
  have hn1 := Aside0.mk (show 1 = li.length from by rw [hli]; rfl)
  have HP3 := Aside0.mk (show PS w w.heap.size (w.heap.size + 1) #[.int .i64 n, .int .i64 s, vl, .slice A l.length c] #[.int .i64 0, .slice none 0 0, .slice none 0 0] A l (some ⟨w31.heap.size + 1, 0, none⟩) li ((w31.alloc (.cells #[.int .i64 y.f0.f0, .int .i64 y.f0.f1, .slice A7 y.f0.f2.length c7, .int .i64 y.f1, .int .i64 y.f2, .int .i64 y.f3, .string y.f4, .string y.f5, .int .i64 y.f6] 47)).alloc (.cells #[.int .i64 y.f0.f0, .int .i64 y.f0.f1, .slice A7 y.f0.f2.length c7, .int .i64 y.f1, .int .i64 y.f2, .int .i64 y.f3, .string y.f4, .string y.f5, .int .i64 y.f6] 47)) from ⟨below_alloc (below_alloc HP1.out.below _) _, Kd.F_alloc (Kd.F_alloc HP1.out.fl _) _, F_one (by have h := blk_new (w31.alloc (.cells #[.int .i64 y.f0.f0, .int .i64 y.f0.f1, .slice A7 y.f0.f2.length c7, .int .i64 y.f1, .int .i64 y.f2, .int .i64 y.f3, .string y.f4, .string y.f5, .int .i64 y.f6] 47)) (.cells #[.int .i64 y.f0.f0, .int .i64 y.f0.f1, .slice A7 y.f0.f2.length c7, .int .i64 y.f1, .int .i64 y.f2, .int .i64 y.f3, .string y.f4, .string y.f5, .int .i64 y.f6] 47); rwa [show (w31.alloc (.cells #[.int .i64 y.f0.f0, .int .i64 y.f0.f1, .slice A7 y.f0.f2.length c7, .int .i64 y.f1, .int .i64 y.f2, .int .i64 y.f3, .string y.f4, .string y.f5, .int .i64 y.f6] 47)).heap.size = w31.heap.size + 1 from by simp] at h) HYL.out (Kd.F_alloc (Kd.F_alloc HYF.out _) _) li hli, blk_alloc (blk_alloc HP1.out.b1 _) _, blk_alloc (blk_alloc HP1.out.b2 _) _⟩)
  clear hli hm0 h1i0
  obtain ⟨⟨lo, hi⟩, hlo⟩ : ∃ s, arL li = s := ⟨_, rfl⟩
  have HAR := Aside0.mk hlo
  have hm2 := Aside0.mk (show li.length ≤ 1000 from by have := hm1.out; omega)
  have hids := fun (W : World) (h : Kd.F k47 W (fun _ => True) (some ⟨w31.heap.size + 1, 0, none⟩) li.length li) => ids_c (some ⟨w31.heap.size + 1, 0, none⟩) 1 1 li W hn1.out h hc3.out hm2.out
  have har := fun (W : World) (h : Kd.F k47 W (fun _ => True) (some ⟨w31.heap.size + 1, 0, none⟩) li.length li) => around_n (some ⟨w31.heap.size + 1, 0, none⟩) 1 1 li W hn1.out lo hi HAR.out h hc3.out hm1.out h1i.out
  have hov := fun (W : World) (h : Kd.F k47 W (fun _ => True) A l.length l) => ovl_c 3 n s lo hi vl A c l W HQ.out h hc hl
  have HNE := Aside0.mk (show w.heap.size ≠ w.heap.size + 1 from Nat.ne_of_lt (Nat.lt_succ_self _))
  clear hlo hc1 e0 e1 e2 e3 hmi hmz hmz2 HB2 HF2 HG12 HG22 HG1 HG2 HBA HF HE
  go_region_held3 (fun w' => w'.cell? ⟨w.heap.size, 0, none⟩ = some (.int .i64 n) ∧ w'.cell? ⟨w.heap.size, 1, none⟩ = some (.int .i64 s) ∧ w'.cell? ⟨w.heap.size, 2, none⟩ = some vl ∧ w'.cell? ⟨w.heap.size, 3, none⟩ = some (.slice A l.length c) ∧ w'.cell? ⟨w.heap.size + 1, 0, none⟩ = some (qc w' (w.heap.size + 1) 0) ∧ w'.cell? ⟨w.heap.size + 1, 1, none⟩ = some (qc w' (w.heap.size + 1) 1) ∧ w'.cell? ⟨w.heap.size + 1, 2, none⟩ = some (qc w' (w.heap.size + 1) 2) ∧ w'.frozen? ⟨w.heap.size + 1, 0, none⟩ = false ∧ w'.frozen? ⟨w.heap.size + 1, 1, none⟩ = false ∧ w'.frozen? ⟨w.heap.size + 1, 2, none⟩ = false) (first | exact PL.conj (PS.pl (PS.drew HP3.out) HNE.out) | exact PL.conj (PS.pl (PS.to1 HP3.out (by assumption)) HNE.out) | exact PL.conj (PS.pl (PS.to (PS.to1 HP3.out (by assumption)) (by assumption)) HNE.out) | exact PL.conj (PS.pl (PS.to (PS.to (PS.to1 HP3.out (by assumption)) (by assumption)) (by assumption)) HNE.out) | exact PL.conj (PL.set (PS.pl (PS.to (PS.to (PS.to1 HP3.out (by assumption)) (by assumption)) (by assumption)) HNE.out) _ _ _))
    (first | (go_at_call 35; refine (har _ ?_).mono ?_; (first | exact PS.fi (PS.drew HP3.out) | exact PS.fi (PS.to1 HP3.out (by assumption)) | exact PS.fi (PS.to (PS.to1 HP3.out (by assumption)) (by assumption))); rintro e w5 ⟨rfl, hB5⟩) | (go_at_call 33; refine (hids _ ?_).mono ?_; (first | exact PS.fi (PS.drew HP3.out) | exact PS.fi (PS.to1 HP3.out (by assumption)) | exact PS.fi (PS.to (PS.to1 HP3.out (by assumption)) (by assumption))); rintro e w4 ⟨A4, c4, rfl, hR4, hB4⟩) | (go_at_call 34; refine (hov _ ?_).mono ?_; (first | exact PS.fl (PS.to1 HP3.out (by assumption)) | exact PS.fl (PS.to (PS.to1 HP3.out (by assumption)) (by assumption))); rintro e w6 ⟨A6, c6, rfl, hR6, hB6⟩))
  have HC4 := Aside0.mk (set3_C hR4 (below_step hB5 hB6) (blk_lt (PS.drew HP3.out).b2) (.int .i64 2) (.slice A4 (sortI (List.map idT li)).length c4) (.slice A6 (sortI (List.map idT (List.filter (ovP 3 lo hi) l))).length c6))
  have HC6 := Aside0.mk (set3_C hR6 (Below.refl _ _) (blk_lt (PS.to (PS.to1 HP3.out hB4) hB5).b2) (.int .i64 2) (.slice A4 (sortI (List.map idT li)).length c4) (.slice A6 (sortI (List.map idT (List.filter (ovP 3 lo hi) l))).length c6))
  have HPZ := Aside0.mk (PS.to (PS.to (PS.to1 HP3.out hB4) hB5) hB6)
  have HPB := Aside0.mk (PL.box (PS.pl HPZ.out HNE.out) (.int .i64 2) (.slice A4 (sortI (List.map idT li)).length c4) (.slice A6 (sortI (List.map idT (List.filter (ovP 3 lo hi) l))).length c6))
  have HBZ := Aside0.mk (set3_below HPZ.out.below (Nat.le_succ _) (.int .i64 2) (.slice A4 (sortI (List.map idT li)).length c4) (.slice A6 (sortI (List.map idT (List.filter (ovP 3 lo hi) l))).length c6))
  clear hids har hov hR4 hB4 hB5 hB6 hR6
  go_wp2
  exact end10 HPB.out rfl rfl rfl ⟨li, lo, hi, A4, c4, A6, c6, HTK.out, h1i.out, HAR.out, rfl, HC4.out.1, HC4.out.2, HC6.out.1, HC6.out.2, HBZ.out⟩
end Go.Proofs.Ytgnmdhjnpbnacaa.PB
end
section
set_option linter.unusedVariables false
set_option linter.unusedSimpArgs false
namespace Go.Proofs.Ytgnmdhjnpbnacaa.PB
open Go.RowKit Go.Proofs.YtgnmdhjnpbnacaaW.PrintWords Go.Proofs.YtgnmdhjnpbnacaaW.PrintLast Go.Proofs.YtgnmdhjnpbnacaaW.PrintMore
theorem ids_inj {l : List S47} (h : (l.map idT).Pairwise (fun a b => a ≠ b)) {x y : S47} (hx : x ∈ l) (hy : y ∈ l) (e : idT x = idT y) : x = y := by
  obtain ⟨i, hi, rfl⟩ := List.getElem_of_mem hx
  obtain ⟨j, hj, rfl⟩ := List.getElem_of_mem hy
  rw [List.pairwise_iff_getElem] at h
  rcases Nat.lt_trichotomy i j with hlt | rfl | hlt
  · exact absurd (by rw [List.getElem_map, List.getElem_map]; exact e) (h i j (by simpa using hi) (by simpa using hj) hlt)
  · rfl
  · exact absurd (by rw [List.getElem_map, List.getElem_map]; exact e.symm) (h j i (by simpa using hj) (by simpa using hi) hlt)
theorem hasI_iff {l : List Int} {n : Int} : hasI l n = true ↔ n ∈ l := by unfold hasI; simp
theorem mem_sortI {l : List Int} {n : Int} : n ∈ sortI l ↔ n ∈ l := (sortI_perm l).mem_iff
theorem filter_one (l : List S47) (y : S47) (hy : y ∈ l) (h : (l.map idT).Pairwise (fun a b => a ≠ b)) : (l.filter fun x => decide (idT x = idT y)).length = 1 := by
  induction l with
  | nil => simp at hy
  | cons x l ih =>
    rw [List.map_cons, List.pairwise_cons] at h
    rw [List.filter_cons]
    by_cases e : idT x = idT y
    · rw [decide_eq_true e, if_pos rfl, List.length_cons]
      have : (l.filter fun x => decide (idT x = idT y)) = [] := by
        rw [List.filter_eq_nil_iff]
        intro z hz
        have := h.1 (idT z) (List.mem_map.2 ⟨z, hz, rfl⟩)
        simp
        rw [← e]; exact fun e => this e.symm
      rw [this]; rfl
    · rw [decide_eq_false e, if_neg (by simp)]
      rcases List.mem_cons.1 hy with rfl | hy
      · exact absurd rfl e
      · exact ih hy h.2
/-- who is taken in, as a test -/
theorem takes_test {nn : Int} {l li : List S47} (hT : Takes nn l li) (hD : (l.map idT).Pairwise (fun a b => a ≠ b)) : ∃ pin : S47 → Bool, (∀ x ∈ l, (pin x = true ↔ idT x ∈ li.map idT)) ∧ (l.filter pin).length = li.length ∧ (∀ x ∈ l, pin x = true → x.f2 = nn ∧ x ∈ li) ∧ (∀ x ∈ li, x ∈ l ∧ x.f2 = nn) ∧ (nn = 0 → ∀ x ∈ l, x.f2 = 0 → pin x = true) ∧ (0 ≤ nn) := by
  rcases hT with ⟨rfl, rfl⟩ | ⟨hn, y, hy, rfl⟩
  · refine ⟨lvl 0, ?_, rfl, ?_, ?_, ?_, Int.le_refl _⟩
    · intro x hx
      constructor
      · intro h
        exact List.mem_map.2 ⟨x, List.mem_filter.2 ⟨hx, h⟩, rfl⟩
      · intro h
        obtain ⟨z, hz, e⟩ := List.mem_map.1 h
        obtain ⟨hz1, hz2⟩ := List.mem_filter.1 hz
        rw [ids_inj hD hx hz1 e.symm]; exact hz2
    · intro x hx h
      exact ⟨beq_iff_eq.1 h, List.mem_filter.2 ⟨hx, h⟩⟩
    · intro x hx
      obtain ⟨h1, h2⟩ := List.mem_filter.1 hx
      exact ⟨h1, beq_iff_eq.1 h2⟩
    · intro _ x hx h
      exact lvl_yes h
  · obtain ⟨h1, h2⟩ := List.mem_filter.1 hy
    refine ⟨fun x => decide (idT x = idT y), ?_, filter_one l y h1 hD, ?_, ?_, ?_, by omega⟩
    · intro x hx
      simp
    · intro x hx h
      have e := ids_inj hD hx h1 (by simpa using h)
      rw [e]
      exact ⟨beq_iff_eq.1 h2, by simp⟩
    · intro x hx
      rw [List.mem_singleton.1 hx]
      exact ⟨h1, beq_iff_eq.1 h2⟩
    · intro e; omega
/-- what is named: the tables taken in, and those of the next level that meet their range -/
theorem named_law {nn : Int} {l li : List S47} {lo hi : ByteArray} (hD : (l.map idT).Pairwise (fun a b => a ≠ b)) (hT : Takes nn l li) : ∃ pin : S47 → Bool, (∀ x ∈ l, inJ (sortI (li.map idT)) (sortI ((l.filter (ovP (nn + 1) lo hi)).map idT)) x = (pin x || ovP (nn + 1) lo hi x)) ∧ (∀ x ∈ l, hasI (sortI (li.map idT)) x.f0.f0 = pin x) ∧ (l.filter pin).length = li.length ∧ (∀ x ∈ l, pin x = true → x.f2 = nn ∧ x ∈ li) ∧ (∀ x ∈ li, x ∈ l ∧ x.f2 = nn ∧ pin x = true) ∧ (nn = 0 → ∀ x ∈ l, x.f2 = 0 → pin x = true) ∧ 0 ≤ nn := by
  obtain ⟨pin, h1, h2, h3, h4, h5, h6⟩ := takes_test hT hD
  have hp : ∀ x ∈ l, hasI (sortI (li.map idT)) x.f0.f0 = pin x := by
    intro x hx
    rw [Bool.eq_iff_iff, hasI_iff, mem_sortI]
    exact (h1 x hx).symm
  refine ⟨pin, ?_, hp, h2, h3, ?_, h5, h6⟩
  · intro x hx
    unfold inJ
    rw [hp x hx]
    congr 1
    rw [Bool.eq_iff_iff, hasI_iff, mem_sortI]
    constructor
    · intro h
      obtain ⟨z, hz, e⟩ := List.mem_map.1 h
      obtain ⟨hz1, hz2⟩ := List.mem_filter.1 hz
      rw [ids_inj hD hx hz1 e.symm]; exact hz2
    · intro h
      exact List.mem_map.2 ⟨x, List.mem_filter.2 ⟨hx, h⟩, rfl⟩
  · intro x hx
    obtain ⟨a, b⟩ := h4 x hx
    exact ⟨a, b, (h1 x a).2 (List.mem_map.2 ⟨x, hx, rfl⟩)⟩
theorem ov_iff {n : Int} {lo hi : ByteArray} {x : S47} : ovP n lo hi x = true ↔ x.f2 = n ∧ leS x.f4 hi = true ∧ leS lo x.f5 = true := by
  unfold ovP lvl meetB
  rw [Bool.and_eq_true, Bool.and_eq_true, beq_iff_eq]
theorem VOK.ne {l : List S47} (h : VOK l) : (l.map idT).Pairwise (fun a b => a ≠ b) := h.ids.imp (fun h => by omega)
end Go.Proofs.Ytgnmdhjnpbnacaa.PB
end
section
set_option linter.unusedVariables false
set_option linter.unusedSimpArgs false
namespace Go.Proofs.Ytgnmdhjnpbnacaa.PB
open Go.RowKit Go.Proofs.YtgnmdhjnpbnacaaW.PrintWords Go.Proofs.YtgnmdhjnpbnacaaW.PrintLast Go.Proofs.YtgnmdhjnpbnacaaW.PrintMore
theorem fullTo_mem (l : List S47) (k : Int) : ∀ i, k ∈ fullTo l i → 0 ≤ k ∧ k < (i : Int) ∧ limN k < cntL l k
  | 0, h => by cases h
  | i + 1, h => by
    rw [fullTo, List.mem_append] at h
    rcases h with h | h
    · obtain ⟨a, b, c⟩ := fullTo_mem l k i h
      exact ⟨a, by omega, c⟩
    · split at h
      · rename_i hf
        have e : k = (i : Int) := by simpa using h
        subst e
        unfold fullB at hf
        exact ⟨by omega, by omega, of_decide_eq_true hf⟩
      · cases h
theorem full_head {l : List S47} {nn : Int} {rest : List Int} (h : fullTo l 3 = nn :: rest) : (nn = 0 ∨ nn = 1 ∨ nn = 2) ∧ 1 ≤ (l.filter (lvl nn)).length := by
  obtain ⟨a, b, c⟩ := fullTo_mem l nn 3 (by rw [h]; simp)
  have h3 : nn = 0 ∨ nn = 1 ∨ nn = 2 := by omega
  refine ⟨h3, ?_⟩
  unfold cntL at c
  have : (3 : Int) ≤ limN nn := by
    unfold limN
    rcases h3 with rfl | rfl | rfl <;> decide
  omega
theorem pick_any (nn n s : Int) (vl : Value) (A : Option Addr) (c : Nat) (l : List S47) (w : World) (hq : ∀ x ∈ l, okT x) (hF : Kd.F k47 w (fun _ => True) A l.length l) (hc : l.length ≤ c) (hl : l.length ≤ 200) (rest : List Int) (h : fullTo l 3 = nn :: rest) :
    Calls Try.prog 10 #[.agg #[.int .i64 n, .int .i64 s, vl, .slice A l.length c]] w (PickPost nn l w) := by
  obtain ⟨h3, h1⟩ := full_head h
  rcases h3 with rfl | rfl | rfl
  · exact pick_at0 n s vl A c l w hq hF hc hl rest h _ rfl h1
  · exact pick_at1 n s vl A c l w hq hF hc hl rest h _ rfl h1
  · exact pick_at2 n s vl A c l w hq hF hc hl rest h _ rfl h1
/-- the version's box, in each world it comes to. -/
structure VP (w0 : World) (b : Array Value) (A3 : Option Addr) (l : List S47) (W : World) : Prop where
  below : Below w0.heap.size w0 W
  bv : W.heap[w0.heap.size]? = some (.cells b 25 (0, 0))
  fl : Kd.F k47 W (fun k => k ≠ w0.heap.size) A3 l.length l
theorem VP.to {w0 : World} {b : Array Value} {A3 : Option Addr} {l : List S47} {W W2 : World} (h : VP w0 b A3 l W) (hB : Below W.heap.size W W2) : VP w0 b A3 l W2 := ⟨below_step h.below hB, blk_below h.bv hB, Kd.F_below h.fl hB⟩
theorem VP.alloc {w0 : World} {b : Array Value} {A3 : Option Addr} {l : List S47} {W : World} (h : VP w0 b A3 l W) (o : Obj) : VP w0 b A3 l (W.alloc o) := h.to (below_alloc (Below.refl _ _) o)
theorem VP.drew {w0 : World} {b : Array Value} {A3 : Option Addr} {l : List S47} {W : World} (h : VP w0 b A3 l W) : VP w0 b A3 l W.drew := h.to (below_drew (Below.refl _ _))
theorem VP.fT {w0 : World} {b : Array Value} {A3 : Option Addr} {l : List S47} {W : World} (h : VP w0 b A3 l W) : Kd.F k47 W (fun _ => True) A3 l.length l := Kd.F_mono h.fl (fun _ _ => trivial)
theorem VP.set2 {w0 : World} {a0 a1 a2 a3 : Value} {A3 : Option Addr} {l : List S47} {W : World} (h : VP w0 #[a0, a1, a2, a3] A3 l W) (x y : Value) : VP w0 #[x, y, a2, a3] A3 l ((W.setCell ⟨w0.heap.size, 0, none⟩ x).setCell ⟨w0.heap.size, 1, none⟩ y) :=
  ⟨below_set (below_set h.below (Nat.le_refl _)) (Nat.le_refl _), blk_set (blk_set h.bv 0 x) 1 y, Kd.F_far (Kd.F_far h.fl (p := ⟨w0.heap.size, 0, none⟩) (fun _ hk => hk) x) (p := ⟨w0.heap.size, 1, none⟩) (fun _ hk => hk) y⟩
theorem is_b (Al : Option Addr) (cl : Nat) (A : Option Addr) (c : Nat) (l : List S47) (w : World) (hF : Kd.F k47 w (fun _ => True) A l.length l) (hc : l.length ≤ c) (hl : l.length ≤ 200) :
    Calls Try.prog 8 #[.agg #[.int .i64 1048576, .int .i64 1099511627776, .slice Al 0 cl, .slice A l.length c]] w (IsPost w l) := is_c Al cl A c l w hF hc hl
end Go.Proofs.Ytgnmdhjnpbnacaa.PB
end
section
set_option linter.unusedVariables false
set_option linter.unusedSimpArgs false
namespace Go.Proofs.Ytgnmdhjnpbnacaa.PB
open Go.RowKit Go.Proofs.YtgnmdhjnpbnacaaW.PrintWords Go.Proofs.YtgnmdhjnpbnacaaW.PrintLast Go.Proofs.YtgnmdhjnpbnacaaW.PrintMore
set_option maxHeartbeats 8000000 in
set_option maxRecDepth 100000 in
theorem named_p (P : Nat → Prop) (n s L : Int) (vl : Value) (A : Option Addr) (c : Nat) (l : List S47) (A1 : Option Addr) (c1 : Nat) (a : List Int) (A2 : Option Addr) (c2 : Nat) (b : List Int) (w : World) (hF : Kd.F k47 w P A l.length l) (hc : l.length ≤ c) (hl : l.length ≤ 200) (hC1 : kI.C w A1 a.length a) (hc1 : a.length ≤ c1) (hl1 : a.length ≤ 1000000) (hC2 : kI.C w A2 b.length b) (hc2 : b.length ≤ c2) (hl2 : b.length ≤ 1000000) :
    Calls Try.prog 13 #[.agg #[.int .i64 n, .int .i64 s, vl, .slice A l.length c], .agg #[.int .i64 L, .slice A1 a.length c1, .slice A2 b.length c2]] w fun e w' => ∃ A3 c3 A4 c4, e = .returned (.tuple #[.slice A3 (l.filter (inJ a b)).length c3, .slice A4 (l.filter (outJ a b)).length c4]) ∧ Kd.N k47 47 w' w.heap.size (fun k => (P k ∨ w.heap.size ≤ k) ∧ some k ≠ (Value.slice A4 (l.filter (outJ a b)).length c4).ownBlock) (.slice A3 (l.filter (inJ a b)).length c3) (l.filter (inJ a b)) ∧ Kd.N k47 47 w' w.heap.size (fun k => (P k ∨ w.heap.size ≤ k) ∧ some k ≠ (Value.slice A3 (l.filter (inJ a b)).length c3).ownBlock) (.slice A4 (l.filter (outJ a b)).length c4) (l.filter (outJ a b)) ∧ Below w.heap.size w w' := by
  have HF := Aside0.mk (Kd.F_bound hF)
  have HL := Aside0.mk hl
  have HC1 := Aside0.mk hC1
  have HC2 := Aside0.mk hC2
  have HD1 := Aside0.mk hc1
  have HD2 := Aside0.mk hc2
  have HL1 := Aside0.mk hl1
  have HL2 := Aside0.mk hl2
  have HB0 := Aside0.mk (below_alloc (below_alloc (Below.refl w.heap.size w) (.cells #[.int .i64 n, .int .i64 s, vl, .slice A l.length c] 25)) (.cells #[.int .i64 L, .slice A1 a.length c1, .slice A2 b.length c2] 34))
  have HG1 := Aside0.mk (blk_alloc (blk_new w (.cells #[.int .i64 n, .int .i64 s, vl, .slice A l.length c] 25)) (.cells #[.int .i64 L, .slice A1 a.length c1, .slice A2 b.length c2] 34))
  have HG2 := Aside0.mk (show ((w.alloc (.cells #[.int .i64 n, .int .i64 s, vl, .slice A l.length c] 25)).alloc (.cells #[.int .i64 L, .slice A1 a.length c1, .slice A2 b.length c2] 34)).heap[w.heap.size + 1]? = some (.cells #[.int .i64 L, .slice A1 a.length c1, .slice A2 b.length c2] 34 (0, 0)) from by have h := blk_new (w.alloc (.cells #[.int .i64 n, .int .i64 s, vl, .slice A l.length c] 25)) (.cells #[.int .i64 L, .slice A1 a.length c1, .slice A2 b.length c2] 34); rwa [show (w.alloc (.cells #[.int .i64 n, .int .i64 s, vl, .slice A l.length c] 25)).heap.size = w.heap.size + 1 from by simp] at h)
  clear hF hl hC1 hc1 hl1 hC2 hc2 hl2
  go_enter Try.func13, Try.ntmps13
  go_wp2
  go_loopg [6, 7, 8] (l.length + 1) (fun kq v6 v7 v8 wr => ∃ i : Nat, v8 = .int .i64 i ∧ Aside0 (i ≤ l.length) ∧ Aside0 (l.length - i < kq) ∧ Aside0 (Kd.N k47 47 wr w.heap.size (fun k => (P k ∨ w.heap.size ≤ k) ∧ some k ≠ Value.ownBlock v7) v6 ((l.take i).filter (inJ a b))) ∧ Aside0 (Kd.N k47 47 wr w.heap.size (fun k => (P k ∨ w.heap.size ≤ k) ∧ some k ≠ Value.ownBlock v6) v7 ((l.take i).filter (outJ a b))) ∧ Aside0 (Below w.heap.size w wr) ∧ Aside0 (wr.heap[w.heap.size]? = some (.cells #[.int .i64 n, .int .i64 s, vl, .slice A l.length c] 25 (0, 0))) ∧ Aside0 (wr.heap[w.heap.size + 1]? = some (.cells #[.int .i64 L, .slice A1 a.length c1, .slice A2 b.length c2] 34 (0, 0))))
  case atStart => exact ⟨0, rfl, ⟨Nat.zero_le _⟩, ⟨by omega⟩, ⟨by simpa using Kd.N_nil _ _ _ _ _⟩, ⟨by simpa using Kd.N_nil _ _ _ _ _⟩, HB0, HG1, HG2⟩
  case round =>
    obtain ⟨i, rfl, HI, HK, HO, HP, HB, HR1, HR2⟩ := hrel
    clear HB0 HG1 HG2
    have hi := HI.out
    obtain ⟨Ao, co, rfl⟩ := Kd.N_slice HO.out
    obtain ⟨Bo, do_, rfl⟩ := Kd.N_slice HP.out
    have r0 := blk_cell HR1.out 3
    have q1 := blk_cell HR2.out 1
    have q2 := blk_cell HR2.out 2
    by_cases hlt : i < l.length
    · have ht : decide (i < l.length) = true := decide_eq_true hlt
      have ht2 : decide ((i : Int) < (l.length : Int)) = true := decide_eq_true (by omega)
      obtain ⟨x, hx⟩ : ∃ x, x = l.getD i z47 := ⟨_, rfl⟩
      have HFr := Aside0.mk (Kd.F_step HF.out (fun k hk _ => HB.out.block k hk.2))
      obtain ⟨ad, A5, c5, rfl, x0, x1, x2, x3, x4, x5, x6, x7, x8, hl2, hF2⟩ := at_F47 HFr.out i hlt x hx
      have HLX := Aside0.mk hl2
      have HF2 := Aside0.mk hF2
      have HX := Aside0.mk hx
      have HLT1 := Aside0.mk (take_len_le (inJ a b) l i)
      have HLT2 := Aside0.mk (take_len_le (outJ a b) l i)
      have hi0 : (0 : Int) ≤ (i : Int) := by omega
      have hi1 : (i : Int) < (l.length : Int) := by omega
      have hi2 : (i : Int) ≤ 200 := by have := HL.out; omega
      have HFT1 := Aside0.mk (filter_take (inJ a b) l i hlt)
      have HFT2 := Aside0.mk (filter_take (outJ a b) l i hlt)
      rw [← hx] at HFT1 HFT2
      clear hx hl2 hF2
      cases h1 : hasI a x.f0.f0 with
      | true =>
        have HPX1 := Aside0.mk (show inJ a b x = true from by unfold inJ; rw [h1]; rfl)
        have HPX2 := Aside0.mk (show outJ a b x = false from by unfold outJ; rw [HPX1.out]; rfl)
        have HH1 := Aside0.mk h1
        clear h1
        go_wp2_with (first | (go_at_call 14; (with_reducible refine (has_c A1 c1 a x.f0.f0 _ HH1.out _ (Kd.C_below HC1.out HB.out) HD1.out HL1.out).mono ?_); rintro e w1 ⟨rfl, hB1⟩; have HB1 := Aside0.mk (below_step HB.out hB1); have HR11 := Aside0.mk (blk_below HR1.out hB1); have HR21 := Aside0.mk (blk_below HR2.out hB1); have HO1 := Aside0.mk (Kd.N_below HO.out hB1); have HP1 := Aside0.mk (Kd.N_below HP.out hB1); have HF21 := Aside0.mk (Kd.F_below HF2.out hB1); have y10 := pw_cell_below hB1 x0; have y11 := pw_cell_below hB1 x1; have y12 := pw_cell_below hB1 x2; have y13 := pw_cell_below hB1 x3; have y14 := pw_cell_below hB1 x4; have y15 := pw_cell_below hB1 x5; have y16 := pw_cell_below hB1 x6; have y17 := pw_cell_below hB1 x7; have y18 := pw_cell_below hB1 x8; have r01 := blk_cell HR11.out 3; have q11 := blk_cell HR21.out 1; have q21 := blk_cell HR21.out 2; clear hB1) | ((with_reducible refine gate_builtin (b := .append) (xs := #[.tmp 34, .tmp 40]) rfl ?_); at_builtin; go_must (refine Kd.N_append k47 (w0 := w) (W := w1) w.heap.size rfl (.tmp 34) (.tmp 40) 23 47 (.agg #[.int .i64 0, .int .i64 0, .slice none 0 0, .int .i64 0, .int .i64 0, .int .i64 0, .string ⟨#[]⟩, .string ⟨#[]⟩, .int .i64 0]) 104 rfl Try.underlying23 info47 rfl (by decide) (by decide) (.slice Ao ((l.take i).filter (inJ a b)).length co) ((l.take i).filter (inJ a b)) x [.int .i64 x.f0.f0, .int .i64 x.f0.f1, .slice A5 x.f0.f2.length c5, .int .i64 x.f1, .int .i64 x.f2, .int .i64 x.f3, .string x.f4, .string x.f5, .int .i64 x.f6] (fun k => (P k ∨ w.heap.size ≤ k) ∧ some k ≠ Value.ownBlock (.slice Bo ((l.take i).filter (outJ a b)).length do_)) (fun k => P k ∧ k < w.heap.size) rfl (by first | rfl | (simp; rfl) | simp) (k47_mkF _ _ x HLX.out HF21.out) (fun k hk => ⟨⟨.inl hk.1, fun e => absurd (Kd.N_base HP1.out k e.symm) (Nat.not_le_of_lt hk.2)⟩, fun e => absurd (Kd.N_base HO1.out k e.symm) (Nat.not_le_of_lt hk.2)⟩) (fun k hk => ⟨.inr (Nat.le_trans HB1.out.size hk), fun e => absurd (Kd.N_lt HP1.out k e.symm) (Nat.not_lt_of_le hk)⟩) HO1.out HB1.out HB1.out.size (by have := HL.out; have := HLT1.out; omega) ?_); intro v9 w9 ho hb hg hat; have HX9 := Aside0.mk ho; have HB9 := Aside0.mk hb; have HY9 := Aside0.mk (Kd.N_after HP1.out hg hat); have HR19 := Aside0.mk ((hg.block _ (blk_lt HR11.out) (Kd.N_ne HO1.out HR11.out (by decide))).trans HR11.out); have HR29 := Aside0.mk ((hg.block _ (blk_lt HR21.out) (Kd.N_ne HO1.out HR21.out (by decide))).trans HR21.out); clear ho hb hg hat))
        go_roundg (l.length - i)
        case measure => exact HK.out
        case rel => exact ⟨i + 1, by go_num, ⟨by omega⟩, ⟨by omega⟩, ⟨by rw [HFT1.out, HPX1.out]; exact HX9.out⟩, ⟨by rw [HFT2.out, HPX2.out, if_neg (by decide), List.append_nil]; exact HY9.out⟩, HB9, HR19, HR29⟩
      | false =>
        cases h2 : hasI b x.f0.f0 with
        | true =>
          have HPX1 := Aside0.mk (show inJ a b x = true from by unfold inJ; rw [h1, h2]; rfl)
          have HPX2 := Aside0.mk (show outJ a b x = false from by unfold outJ; rw [HPX1.out]; rfl)
          have HH1 := Aside0.mk h1
          have HH2 := Aside0.mk h2
          clear h1 h2
          go_wp2_with (first | (go_at_call 14; (with_reducible refine (has_c A1 c1 a x.f0.f0 _ HH1.out _ (Kd.C_below HC1.out HB.out) HD1.out HL1.out).mono ?_); rintro e w1 ⟨rfl, hB1⟩; have HB1 := Aside0.mk (below_step HB.out hB1); have HR11 := Aside0.mk (blk_below HR1.out hB1); have HR21 := Aside0.mk (blk_below HR2.out hB1); have HO1 := Aside0.mk (Kd.N_below HO.out hB1); have HP1 := Aside0.mk (Kd.N_below HP.out hB1); have HF21 := Aside0.mk (Kd.F_below HF2.out hB1); have y10 := pw_cell_below hB1 x0; have y11 := pw_cell_below hB1 x1; have y12 := pw_cell_below hB1 x2; have y13 := pw_cell_below hB1 x3; have y14 := pw_cell_below hB1 x4; have y15 := pw_cell_below hB1 x5; have y16 := pw_cell_below hB1 x6; have y17 := pw_cell_below hB1 x7; have y18 := pw_cell_below hB1 x8; have r01 := blk_cell HR11.out 3; have q11 := blk_cell HR21.out 1; have q21 := blk_cell HR21.out 2; clear hB1) | (go_at_call 14; (with_reducible refine (has_c A2 c2 b x.f0.f0 _ HH2.out _ (Kd.C_below HC2.out HB1.out) HD2.out HL2.out).mono ?_); rintro e w2 ⟨rfl, hB2⟩; have HB2 := Aside0.mk (below_step HB1.out hB2); have HR12 := Aside0.mk (blk_below HR11.out hB2); have HR22 := Aside0.mk (blk_below HR21.out hB2); have HO2 := Aside0.mk (Kd.N_below HO1.out hB2); have HP2 := Aside0.mk (Kd.N_below HP1.out hB2); have HF22 := Aside0.mk (Kd.F_below HF21.out hB2); have y20 := pw_cell_below hB2 y10; have y21 := pw_cell_below hB2 y11; have y22 := pw_cell_below hB2 y12; have y23 := pw_cell_below hB2 y13; have y24 := pw_cell_below hB2 y14; have y25 := pw_cell_below hB2 y15; have y26 := pw_cell_below hB2 y16; have y27 := pw_cell_below hB2 y17; have y28 := pw_cell_below hB2 y18; have r02 := blk_cell HR12.out 3; have q12 := blk_cell HR22.out 1; have q22 := blk_cell HR22.out 2; clear hB2) | ((with_reducible refine gate_builtin (b := .append) (xs := #[.tmp 34, .tmp 40]) rfl ?_); at_builtin; go_must (refine Kd.N_append k47 (w0 := w) (W := w2) w.heap.size rfl (.tmp 34) (.tmp 40) 23 47 (.agg #[.int .i64 0, .int .i64 0, .slice none 0 0, .int .i64 0, .int .i64 0, .int .i64 0, .string ⟨#[]⟩, .string ⟨#[]⟩, .int .i64 0]) 104 rfl Try.underlying23 info47 rfl (by decide) (by decide) (.slice Ao ((l.take i).filter (inJ a b)).length co) ((l.take i).filter (inJ a b)) x [.int .i64 x.f0.f0, .int .i64 x.f0.f1, .slice A5 x.f0.f2.length c5, .int .i64 x.f1, .int .i64 x.f2, .int .i64 x.f3, .string x.f4, .string x.f5, .int .i64 x.f6] (fun k => (P k ∨ w.heap.size ≤ k) ∧ some k ≠ Value.ownBlock (.slice Bo ((l.take i).filter (outJ a b)).length do_)) (fun k => P k ∧ k < w.heap.size) rfl (by first | rfl | (simp; rfl) | simp) (k47_mkF _ _ x HLX.out HF22.out) (fun k hk => ⟨⟨.inl hk.1, fun e => absurd (Kd.N_base HP2.out k e.symm) (Nat.not_le_of_lt hk.2)⟩, fun e => absurd (Kd.N_base HO2.out k e.symm) (Nat.not_le_of_lt hk.2)⟩) (fun k hk => ⟨.inr (Nat.le_trans HB2.out.size hk), fun e => absurd (Kd.N_lt HP2.out k e.symm) (Nat.not_lt_of_le hk)⟩) HO2.out HB2.out HB2.out.size (by have := HL.out; have := HLT1.out; omega) ?_); intro v9 w9 ho hb hg hat; have HX9 := Aside0.mk ho; have HB9 := Aside0.mk hb; have HY9 := Aside0.mk (Kd.N_after HP2.out hg hat); have HR19 := Aside0.mk ((hg.block _ (blk_lt HR12.out) (Kd.N_ne HO2.out HR12.out (by decide))).trans HR12.out); have HR29 := Aside0.mk ((hg.block _ (blk_lt HR22.out) (Kd.N_ne HO2.out HR22.out (by decide))).trans HR22.out); clear ho hb hg hat))
          go_roundg (l.length - i)
          case measure => exact HK.out
          case rel => exact ⟨i + 1, by go_num, ⟨by omega⟩, ⟨by omega⟩, ⟨by rw [HFT1.out, HPX1.out]; exact HX9.out⟩, ⟨by rw [HFT2.out, HPX2.out, if_neg (by decide), List.append_nil]; exact HY9.out⟩, HB9, HR19, HR29⟩
        | false =>
          have HPX1 := Aside0.mk (show inJ a b x = false from by unfold inJ; rw [h1, h2]; rfl)
          have HPX2 := Aside0.mk (show outJ a b x = true from by unfold outJ; rw [HPX1.out]; rfl)
          have HH1 := Aside0.mk h1
          have HH2 := Aside0.mk h2
          clear h1 h2
          go_wp2_with (first | (go_at_call 14; (with_reducible refine (has_c A1 c1 a x.f0.f0 _ HH1.out _ (Kd.C_below HC1.out HB.out) HD1.out HL1.out).mono ?_); rintro e w1 ⟨rfl, hB1⟩; have HB1 := Aside0.mk (below_step HB.out hB1); have HR11 := Aside0.mk (blk_below HR1.out hB1); have HR21 := Aside0.mk (blk_below HR2.out hB1); have HO1 := Aside0.mk (Kd.N_below HO.out hB1); have HP1 := Aside0.mk (Kd.N_below HP.out hB1); have HF21 := Aside0.mk (Kd.F_below HF2.out hB1); have y10 := pw_cell_below hB1 x0; have y11 := pw_cell_below hB1 x1; have y12 := pw_cell_below hB1 x2; have y13 := pw_cell_below hB1 x3; have y14 := pw_cell_below hB1 x4; have y15 := pw_cell_below hB1 x5; have y16 := pw_cell_below hB1 x6; have y17 := pw_cell_below hB1 x7; have y18 := pw_cell_below hB1 x8; have r01 := blk_cell HR11.out 3; have q11 := blk_cell HR21.out 1; have q21 := blk_cell HR21.out 2; clear hB1) | (go_at_call 14; (with_reducible refine (has_c A2 c2 b x.f0.f0 _ HH2.out _ (Kd.C_below HC2.out HB1.out) HD2.out HL2.out).mono ?_); rintro e w2 ⟨rfl, hB2⟩; have HB2 := Aside0.mk (below_step HB1.out hB2); have HR12 := Aside0.mk (blk_below HR11.out hB2); have HR22 := Aside0.mk (blk_below HR21.out hB2); have HO2 := Aside0.mk (Kd.N_below HO1.out hB2); have HP2 := Aside0.mk (Kd.N_below HP1.out hB2); have HF22 := Aside0.mk (Kd.F_below HF21.out hB2); have y20 := pw_cell_below hB2 y10; have y21 := pw_cell_below hB2 y11; have y22 := pw_cell_below hB2 y12; have y23 := pw_cell_below hB2 y13; have y24 := pw_cell_below hB2 y14; have y25 := pw_cell_below hB2 y15; have y26 := pw_cell_below hB2 y16; have y27 := pw_cell_below hB2 y17; have y28 := pw_cell_below hB2 y18; have r02 := blk_cell HR12.out 3; have q12 := blk_cell HR22.out 1; have q22 := blk_cell HR22.out 2; clear hB2) | ((with_reducible refine gate_builtin (b := .append) (xs := #[.tmp 42, .tmp 48]) rfl ?_); at_builtin; go_must (refine Kd.N_append k47 (w0 := w) (W := w2) w.heap.size rfl (.tmp 42) (.tmp 48) 23 47 (.agg #[.int .i64 0, .int .i64 0, .slice none 0 0, .int .i64 0, .int .i64 0, .int .i64 0, .string ⟨#[]⟩, .string ⟨#[]⟩, .int .i64 0]) 104 rfl Try.underlying23 info47 rfl (by decide) (by decide) (.slice Bo ((l.take i).filter (outJ a b)).length do_) ((l.take i).filter (outJ a b)) x [.int .i64 x.f0.f0, .int .i64 x.f0.f1, .slice A5 x.f0.f2.length c5, .int .i64 x.f1, .int .i64 x.f2, .int .i64 x.f3, .string x.f4, .string x.f5, .int .i64 x.f6] (fun k => (P k ∨ w.heap.size ≤ k) ∧ some k ≠ Value.ownBlock (.slice Ao ((l.take i).filter (inJ a b)).length co)) (fun k => P k ∧ k < w.heap.size) rfl (by first | rfl | (simp; rfl) | simp) (k47_mkF _ _ x HLX.out HF22.out) (fun k hk => ⟨⟨.inl hk.1, fun e => absurd (Kd.N_base HO2.out k e.symm) (Nat.not_le_of_lt hk.2)⟩, fun e => absurd (Kd.N_base HP2.out k e.symm) (Nat.not_le_of_lt hk.2)⟩) (fun k hk => ⟨.inr (Nat.le_trans HB2.out.size hk), fun e => absurd (Kd.N_lt HO2.out k e.symm) (Nat.not_lt_of_le hk)⟩) HP2.out HB2.out HB2.out.size (by have := HL.out; have := HLT2.out; omega) ?_); intro v9 w9 ho hb hg hat; have HX9 := Aside0.mk ho; have HB9 := Aside0.mk hb; have HY9 := Aside0.mk (Kd.N_after HO2.out hg hat); have HR19 := Aside0.mk ((hg.block _ (blk_lt HR12.out) (Kd.N_ne HP2.out HR12.out (by decide))).trans HR12.out); have HR29 := Aside0.mk ((hg.block _ (blk_lt HR22.out) (Kd.N_ne HP2.out HR22.out (by decide))).trans HR22.out); clear ho hb hg hat))
          go_roundg (l.length - i)
          case measure => exact HK.out
          case rel => exact ⟨i + 1, by go_num, ⟨by omega⟩, ⟨by omega⟩, ⟨by rw [HFT1.out, HPX1.out, if_neg (by decide), List.append_nil]; exact HY9.out⟩, ⟨by rw [HFT2.out, HPX2.out]; exact HX9.out⟩, HB9, HR19, HR29⟩
    · have ht : decide (i < l.length) = false := decide_eq_false hlt
      have ht2 : decide ((i : Int) < (l.length : Int)) = false := decide_eq_false (by omega)
      have hft : l.take i = l := List.take_of_length_le (by omega)
      have HO2 := HO.out
      have HP2 := HP.out
      rw [hft] at HO2 HP2 ⊢
      have HO3 := Aside0.mk HO2
      have HP3 := Aside0.mk HP2
      clear HO2 HP2 hft HO HP
      go_wp2
      go_ret2
      exact ⟨_, _, _, _, rfl, HO3.out, HP3.out, HB.out⟩
end Go.Proofs.Ytgnmdhjnpbnacaa.PB
end
