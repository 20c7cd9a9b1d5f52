/- The law on WorstScenario: the program's and the reference's results are equal, and the arguments are left as they were. No condition. -/
import Derived.Test.YthcnkcoplgdlkaaWorst
import Derived.Test.YthcnkcoplgdlkaaLawC
import Derived.Test.YthcnkcoplgdlkaaStInt
import Derived.Test.YthcnkcoplgdlkaaStHolding
import Derived.Test.YthcnkcoplgdlkaaStScenario
import Derived.Test.YthcnkcoplgdlkaaLaw
import Derived.Test.YthcnkcoplgdlkaaBase2
namespace Go.Proofs.Ythcnkcoplgdlkaa
open Go.ChangeShapes Go.WideShapes Go.ChangeAt Go.RowKit Go.Deep
namespace fnExactWorstScenario
set_option maxRecDepth 100000 in
set_option maxHeartbeats 4000000 in
theorem walk (b0 : Bas) (A0 : Option Addr) (n0 c0 : Nat) (A1 : Option Addr) (n1 c1 : Nat) (xs1 : List Holding) (A2 : Option Addr) (n2 c2 : Nat) (xs2 : List Scenario) (w : World) (hn0 : n0 ≤ maxLen) (hl0 : b0.lives.length = n0) (hX0 : Rd w w.heap.size A0 1 (intRows b0.lives)) (hf0 : ∀ x ∈ b0.lives, In64 x) (i0 : In64 b0.first) (j0 : In64 b0.rate) (hn1 : n1 ≤ maxLen) (hl1 : xs1.length = n1) (hX1 : Rd w w.heap.size A1 7 (holdingRows (xs1))) (f1 : ∀ x ∈ xs1, x.fits) (hn2 : n2 ≤ maxLen) (hl2 : xs2.length = n2) (hX2 : Rd w w.heap.size A2 2 (scenarioRows (xs2))) (f2 : ∀ x ∈ xs2, x.fits) :
    Calls Try.prog 11 #[.agg #[.int .i64 b0.first, .slice A0 n0 c0, .int .i64 b0.rate], .slice A1 n1 c1, .slice A2 n2 c2] w fun e w' => e = .returned (.bool true) ∧ Below w.heap.size w w' := by
  unfold maxLen at *
  have BK0 : Below w.heap.size w (w.alloc (.cells #[.int .i64 b0.first, .slice A0 n0 c0, .int .i64 b0.rate] 26)) := ((Below.refl _ w).alloc (by simp <;> omega) _)
  have HA0 := Lib.hid (Blk.new w 26 #[.int .i64 b0.first, .slice A0 n0 c0, .int .i64 b0.rate])
  by_cases hs0 : (n0 : Int) ≤ 1048576
  rotate_left
  · clear hX0 hf0 hl0 i0 j0 hX1 f1 hl1 hX2 f2 hl2
    go_enter Try.func11, Try.ntmps11
    have hc0 := Lib.hid (Blk.agg (cs := [.int .i64 b0.first, .slice A0 n0 c0, .int .i64 b0.rate]) HA0.out 0 [.int .i64 b0.first, .slice A0 n0 c0, .int .i64 b0.rate] rfl)
    go_wp2_with (refine wpList_load_agg rfl 26 _ rfl ⟨w.heap.size, 0, none⟩ rfl [.int .i64 b0.first, .slice A0 n0 c0, .int .i64 b0.rate] hc0.out _ Try.underlying26 rfl LawBas.size ?_)
    refine (szBasis_no _ _ _ _ _ _ _ (by omega) (by omega) (by omega) (by omega)).mono ?_
    rintro e v1 ⟨rfl, hg1⟩
    have BKg1 := BK0.trans (hg1.mono BK0.size)
    go_wp2
    go_ret
    exact ⟨rfl, BKg1⟩
  by_cases hs1 : (n1 : Int) ≤ 1048576 - (n0 : Int)
  rotate_left
  · clear hX0 hf0 hl0 i0 j0 hX1 f1 hl1 hX2 f2 hl2
    go_enter Try.func11, Try.ntmps11
    have hc0 := Lib.hid (Blk.agg (cs := [.int .i64 b0.first, .slice A0 n0 c0, .int .i64 b0.rate]) HA0.out 0 [.int .i64 b0.first, .slice A0 n0 c0, .int .i64 b0.rate] rfl)
    go_wp2_with (refine wpList_load_agg rfl 26 _ rfl ⟨w.heap.size, 0, none⟩ rfl [.int .i64 b0.first, .slice A0 n0 c0, .int .i64 b0.rate] hc0.out _ Try.underlying26 rfl LawBas.size ?_)
    refine (szBasis_yes _ _ _ _ _ _ _ (by omega) (by omega)).mono ?_
    rintro e v1 ⟨rfl, hg1⟩
    have BKg1 := BK0.trans (hg1.mono BK0.size)
    go_wp2_with fail
    refine (szHoldingS_no _ _ _ _ _ (by omega) (by omega) (by omega) (by omega)).mono ?_
    rintro e w' ⟨rfl, rfl⟩
    go_wp2
    go_ret
    exact ⟨rfl, BKg1⟩
  by_cases hs2 : (n2 : Int) ≤ 1048576 - (n0 : Int) - (n1 : Int)
  rotate_left
  · clear hX0 hf0 hl0 i0 j0 hX1 f1 hl1 hX2 f2 hl2
    go_enter Try.func11, Try.ntmps11
    have hc0 := Lib.hid (Blk.agg (cs := [.int .i64 b0.first, .slice A0 n0 c0, .int .i64 b0.rate]) HA0.out 0 [.int .i64 b0.first, .slice A0 n0 c0, .int .i64 b0.rate] rfl)
    go_wp2_with (refine wpList_load_agg rfl 26 _ rfl ⟨w.heap.size, 0, none⟩ rfl [.int .i64 b0.first, .slice A0 n0 c0, .int .i64 b0.rate] hc0.out _ Try.underlying26 rfl LawBas.size ?_)
    refine (szBasis_yes _ _ _ _ _ _ _ (by omega) (by omega)).mono ?_
    rintro e v1 ⟨rfl, hg1⟩
    have BKg1 := BK0.trans (hg1.mono BK0.size)
    go_wp2_with fail
    refine (szHoldingS_yes _ _ _ _ _ (by omega) (by omega)).mono ?_
    rintro e w' ⟨rfl, rfl⟩
    go_wp2_with fail
    refine (szScenarioS_no _ _ _ _ _ (by omega) (by omega) (by omega) (by omega)).mono ?_
    rintro e w' ⟨rfl, rfl⟩
    go_wp2
    go_ret
    exact ⟨rfl, BKg1⟩
  have hs0' : n0 ≤ 1048576 := by omega
  have HLT0 := Lib.hid (show LiesT w A0 n0 b0.lives from ⟨hl0, hs0', hX0, hf0⟩)
  have HT0 := Lib.hid (show b0.lives.length = n0 ∧ n0 ≤ 1048576 ∧ (∀ x ∈ b0.lives, In64 x) ∧ In64 b0.first ∧ In64 b0.rate from ⟨hl0, hs0', hf0, i0, j0⟩)
  clear hl0 hX0 hf0 i0 j0
  have hs1' : n1 ≤ 1048576 := by omega
  have HX1 := Lib.hid hX1; clear hX1
  have HL1 := Lib.hid hl1; clear hl1
  have HF1 := Lib.hid f1; clear f1
  have hs2' : n2 ≤ 1048576 := by omega
  have HX2 := Lib.hid hX2; clear hX2
  have HL2 := Lib.hid hl2; clear hl2
  have HF2 := Lib.hid f2; clear f2
  go_enter Try.func11, Try.ntmps11
  have hcHA0 := Lib.hid (Blk.agg (cs := [.int .i64 b0.first, .slice A0 n0 c0, .int .i64 b0.rate]) HA0.out 0 [.int .i64 b0.first, .slice A0 n0 c0, .int .i64 b0.rate] rfl)
  go_wp2_with (first | (refine wpList_load_agg rfl 26 _ rfl ⟨w.heap.size, 0, none⟩ rfl [.int .i64 b0.first, .slice A0 n0 c0, .int .i64 b0.rate] hcHA0.out _ Try.underlying26 rfl LawBas.size ?_))
  refine (szBasis_yes _ _ _ _ _ _ _ (by omega) (by omega)).mono ?_
  rintro e w1 ⟨rfl, hb1⟩
  clear hcHA0
  have BK1 := BK0.trans (hb1.mono BK0.size)
  have hz1 : w.heap.size + 1 ≤ w1.heap.size := by have := hb1.size; simpa using this
  replace HA0 := Lib.hid (HA0.out.below' hb1)
  clear hb1
  go_wp2_with fail
  refine (szHoldingS_yes _ _ _ _ _ (by omega) (by omega)).mono ?_
  rintro e w' ⟨rfl, rfl⟩
  go_wp2_with fail
  refine (szScenarioS_yes _ _ _ _ _ (by omega) (by omega)).mono ?_
  rintro e w' ⟨rfl, rfl⟩
  have hcHA0 := Lib.hid (Blk.agg (cs := [.int .i64 b0.first, .slice A0 n0 c0, .int .i64 b0.rate]) HA0.out 0 [.int .i64 b0.first, .slice A0 n0 c0, .int .i64 b0.rate] rfl)
  go_wp2_with (first | (refine wpList_load_agg rfl 26 _ rfl ⟨w.heap.size, 0, none⟩ rfl [.int .i64 b0.first, .slice A0 n0 c0, .int .i64 b0.rate] hcHA0.out _ Try.underlying26 rfl LawBas.size ?_))
  refine (toBasis_any b0 A0 n0 c0 _ (HLT0.out.past BK1)).mono ?_
  rintro e w2 ⟨gw0, rfl, hHRw0, hb2⟩
  clear hcHA0
  have BK2 := BK1.trans (hb2.mono BK1.size)
  have hz2 : w1.heap.size ≤ w2.heap.size := hb2.size
  replace HA0 := Lib.hid (HA0.out.below' hb2)
  clear hb2
  have HRw0 := Lib.hid hHRw0; clear hHRw0
  have hww0 := Lib.hid (fun g (hg : some (⟨gw0, 0, none⟩ : Addr) = some ⟨g, 0, none⟩) => show w1.heap.size ≤ g ∧ g < w2.heap.size by have h9 := HRw0.out.lt hg; simpa using h9)
  go_wp2_with fail
  refine (toHoldingS_any A1 n1 c1 xs1 _ hs1' HL1.out ((HX1.out.below BK2).more BK2.size)).mono ?_
  rintro e w3 ⟨gw1, rfl, hHRw1, hb3⟩
  have BK3 := BK2.trans (hb3.mono BK2.size)
  have hz3 : w2.heap.size ≤ w3.heap.size := hb3.size
  replace HA0 := Lib.hid (HA0.out.below' hb3)
  replace HRw0 := Lib.hid (HRw0.out.past hb3)
  clear hb3
  have HRw1 := Lib.hid hHRw1; clear hHRw1
  have hww1 := Lib.hid (fun g (hg : some (⟨gw1, 0, none⟩ : Addr) = some ⟨g, 0, none⟩) => show w2.heap.size ≤ g ∧ g < w3.heap.size by have h9 := HRw1.out.lt hg; simpa using h9)
  go_wp2_with fail
  refine (toScenarioS_any A2 n2 c2 xs2 _ hs2' HL2.out ((HX2.out.below BK3).more BK3.size)).mono ?_
  rintro e w4 ⟨gw2, rfl, hHRw2, hb4⟩
  have BK4 := BK3.trans (hb4.mono BK3.size)
  have hz4 : w3.heap.size ≤ w4.heap.size := hb4.size
  replace HA0 := Lib.hid (HA0.out.below' hb4)
  replace HRw0 := Lib.hid (HRw0.out.past hb4)
  replace HRw1 := Lib.hid (HRw1.out.past hb4)
  clear hb4
  have HRw2 := Lib.hid hHRw2; clear hHRw2
  have hww2 := Lib.hid (fun g (hg : some (⟨gw2, 0, none⟩ : Addr) = some ⟨g, 0, none⟩) => show w3.heap.size ≤ g ∧ g < w4.heap.size by have h9 := HRw2.out.lt hg; simpa using h9)
  go_wp2_with fail
  refine (spec_WorstScenario_any b0 (some ⟨gw0, 0, none⟩) n0 n0 (some ⟨gw1, 0, none⟩) n1 n1 xs1 (some ⟨gw2, 0, none⟩) n2 n2 xs2 _ (basT_of HRw0.out HT0.out) HL1.out hs1' HRw1.out.rd HF1.out HL2.out hs2' HRw2.out.rd HF2.out).mono ?_
  rintro e w5 ⟨rfl, hb5⟩
  have BK5 := BK4.trans (hb5.mono BK4.size)
  have hz5 : w4.heap.size ≤ w5.heap.size := hb5.size
  replace HA0 := Lib.hid (HA0.out.below' hb5)
  replace HRw0 := Lib.hid (HRw0.out.past hb5)
  replace HRw1 := Lib.hid (HRw1.out.past hb5)
  replace HRw2 := Lib.hid (HRw2.out.past hb5)
  clear hb5
  have hcHA0 := Lib.hid (Blk.agg (cs := [.int .i64 b0.first, .slice A0 n0 c0, .int .i64 b0.rate]) HA0.out 0 [.int .i64 b0.first, .slice A0 n0 c0, .int .i64 b0.rate] rfl)
  go_wp2_with (first | (refine wpList_load_agg rfl 26 _ rfl ⟨w.heap.size, 0, none⟩ rfl [.int .i64 b0.first, .slice A0 n0 c0, .int .i64 b0.rate] hcHA0.out _ Try.underlying26 rfl LawBas.size ?_))
  refine (toBasis_any b0 A0 n0 c0 _ (HLT0.out.past BK5)).mono ?_
  rintro e w6 ⟨gx0, rfl, hHRx0, hb6⟩
  clear hcHA0
  have BK6 := BK5.trans (hb6.mono BK5.size)
  have hz6 : w5.heap.size ≤ w6.heap.size := hb6.size
  replace HA0 := Lib.hid (HA0.out.below' hb6)
  clear hb6
  have HRx0 := Lib.hid hHRx0; clear hHRx0
  have hwx0 := Lib.hid (fun g (hg : some (⟨gx0, 0, none⟩ : Addr) = some ⟨g, 0, none⟩) => show w5.heap.size ≤ g ∧ g < w6.heap.size by have h9 := HRx0.out.lt hg; simpa using h9)
  have hbax0 : Below w6.heap.size w6 (w6.alloc (.cells #[.int .i64 b0.first, .slice (some ⟨gx0, 0, none⟩) n0 n0, .int .i64 b0.rate] 32)) := (Below.refl _ _).alloc (Nat.le_refl _) _
  replace HA0 := Lib.hid (HA0.out.below' hbax0)
  replace HRx0 := Lib.hid (HRx0.out.past hbax0)
  have HYx0 := Lib.hid (Blk.new w6 32 #[.int .i64 b0.first, .slice (some ⟨gx0, 0, none⟩) n0 n0, .int .i64 b0.rate])
  replace BK6 := BK6.trans (hbax0.mono BK6.size)
  clear hbax0
  go_wp2_with fail
  refine (toHoldingS_any A1 n1 c1 xs1 _ hs1' HL1.out ((HX1.out.below BK6).more BK6.size)).mono ?_
  rintro e w7 ⟨gx1, rfl, hHRx1, hb7⟩
  have BK7 := BK6.trans (hb7.mono BK6.size)
  have hz7 : w6.heap.size + 1 ≤ w7.heap.size := by have := hb7.size; simpa using this
  replace HA0 := Lib.hid (HA0.out.below' hb7)
  replace HRx0 := Lib.hid (HRx0.out.past hb7)
  replace HYx0 := Lib.hid (HYx0.out.below' hb7)
  clear hb7
  have HRx1 := Lib.hid hHRx1; clear hHRx1
  have hwx1 := Lib.hid (fun g (hg : some (⟨gx1, 0, none⟩ : Addr) = some ⟨g, 0, none⟩) => show w6.heap.size + 1 ≤ g ∧ g < w7.heap.size by have h9 := HRx1.out.lt hg; simpa using h9)
  go_wp2_with fail
  refine (toScenarioS_any A2 n2 c2 xs2 _ hs2' HL2.out ((HX2.out.below BK7).more BK7.size)).mono ?_
  rintro e w8 ⟨gx2, rfl, hHRx2, hb8⟩
  have BK8 := BK7.trans (hb8.mono BK7.size)
  have hz8 : w7.heap.size ≤ w8.heap.size := hb8.size
  replace HA0 := Lib.hid (HA0.out.below' hb8)
  replace HRx0 := Lib.hid (HRx0.out.past hb8)
  replace HYx0 := Lib.hid (HYx0.out.below' hb8)
  replace HRx1 := Lib.hid (HRx1.out.past hb8)
  clear hb8
  have HRx2 := Lib.hid hHRx2; clear hHRx2
  have hwx2 := Lib.hid (fun g (hg : some (⟨gx2, 0, none⟩ : Addr) = some ⟨g, 0, none⟩) => show w7.heap.size ≤ g ∧ g < w8.heap.size by have h9 := HRx2.out.lt hg; simpa using h9)
  have hcHYx0 := Lib.hid (Blk.agg (cs := [.int .i64 b0.first, .slice (some ⟨gx0, 0, none⟩) n0 n0, .int .i64 b0.rate]) HYx0.out 0 [.int .i64 b0.first, .slice (some ⟨gx0, 0, none⟩) n0 n0, .int .i64 b0.rate] rfl)
  go_wp2_with (first | (refine wpList_load_agg rfl 32 _ rfl ⟨w6.heap.size, 0, none⟩ rfl [.int .i64 b0.first, .slice (some ⟨gx0, 0, none⟩) n0 n0, .int .i64 b0.rate] hcHYx0.out _ Try.underlying32 rfl Bas.size ?_))
  refine (impl_WorstScenario_any b0 (some ⟨gx0, 0, none⟩) n0 n0 (some ⟨gx1, 0, none⟩) n1 n1 xs1 (some ⟨gx2, 0, none⟩) n2 n2 xs2 _ (basT_of HRx0.out HT0.out) HL1.out hs1' HRx1.out.rd HF1.out HL2.out hs2' HRx2.out.rd HF2.out).mono ?_
  rintro e w9 ⟨rfl, hb9⟩
  clear hcHYx0
  have BK9 := BK8.trans (hb9.mono BK8.size)
  have hz9 : w8.heap.size ≤ w9.heap.size := hb9.size
  replace HA0 := Lib.hid (HA0.out.below' hb9)
  replace HRx0 := Lib.hid (HRx0.out.past hb9)
  replace HYx0 := Lib.hid (HYx0.out.below' hb9)
  replace HRx1 := Lib.hid (HRx1.out.past hb9)
  replace HRx2 := Lib.hid (HRx2.out.past hb9)
  clear hb9
  have HS := Lib.hid (show ∀ w', Below w9.heap.size w9 w' → Below w9.heap.size w9 w' ∧ w'.cell? ⟨w6.heap.size, 0, none⟩ = some (.int .i64 b0.first) ∧ w'.cell? ⟨w6.heap.size, 1, none⟩ = some (.slice (some ⟨gx0, 0, none⟩) n0 n0) ∧ w'.cell? ⟨w6.heap.size, 2, none⟩ = some (.int .i64 b0.rate) ∧ w'.cell? ⟨w.heap.size, 0, none⟩ = some (.int .i64 b0.first) ∧ w'.cell? ⟨w.heap.size, 1, none⟩ = some (.slice A0 n0 c0) ∧ w'.cell? ⟨w.heap.size, 2, none⟩ = some (.int .i64 b0.rate) from fun w' q => by
    have hx0 := HYx0.out.below' q
    have hx1 := HA0.out.below' q
    exact ⟨q, (hx0.cell 0), (hx0.cell 1), (hx0.cell 2), (hx1.cell 0), (hx1.cell 1), (hx1.cell 2)⟩)
  have BKr := BK9
  go_wp2
  go_region_held3 (fun w' => Below w9.heap.size w9 w' ∧ w'.cell? ⟨w6.heap.size, 0, none⟩ = some (.int .i64 b0.first) ∧ w'.cell? ⟨w6.heap.size, 1, none⟩ = some (.slice (some ⟨gx0, 0, none⟩) n0 n0) ∧ w'.cell? ⟨w6.heap.size, 2, none⟩ = some (.int .i64 b0.rate) ∧ w'.cell? ⟨w.heap.size, 0, none⟩ = some (.int .i64 b0.first) ∧ w'.cell? ⟨w.heap.size, 1, none⟩ = some (.slice A0 n0 c0) ∧ w'.cell? ⟨w.heap.size, 2, none⟩ = some (.int .i64 b0.rate)) (first | exact HS.out _ (Below.drew (Below.refl _ _)) | exact HS.out _ hcc11 | exact HS.out _ hcc10 | exact HS.out _ (Below.alloc hcc11 (by first | exact hcc11.size | exact Nat.le_trans (by simp) hcc11.size) _) ) (first | (go_at_call 14; rename Below w9.heap.size w9 _ ∧ _ => hH; have hc0 := hH.1; refine (toBasis_any b0 A0 n0 c0 _ (HLT0.out.past (BKr.trans (hc0.mono BKr.size)))).mono ?_; rintro e w10 ⟨gy0, rfl, hHRy0, hb10⟩; have hcc10 := hc0.trans (hb10.mono hc0.size); have BK10 := BKr.trans (hcc10.mono BKr.size); have hz10 : w9.heap.size ≤ w10.heap.size := hcc10.size; have HRy0 := Lib.hid hHRy0; clear hHRy0; have hwy0 := Lib.hid (fun g (hg : some (⟨gy0, 0, none⟩ : Addr) = some ⟨g, 0, none⟩) => HRy0.out.lt hg)) | (go_at_call 17; refine (eqBasis_any b0 (some ⟨gx0, 0, none⟩) (some ⟨gy0, 0, none⟩) n0 n0 n0 _ (by omega) (basT_of (HRx0.out.past hcc10) HT0.out) (basT_of HRy0.out HT0.out)).mono ?_; rintro e w11 ⟨rfl, hb11⟩; have hcc11 := hcc10.trans (hb11.mono hcc10.size); have BK11 := BKr.trans (hcc11.mono BKr.size); have hz11 : w10.heap.size ≤ w11.heap.size := hb11.size; have HRy0' := Lib.hid (HRy0.out.past hb11); clear HRy0; have HRy0 := HRy0'; clear HRy0'))
  all_goals clear HS
  replace HA0 := Lib.hid (HA0.out.below' hcc11)
  replace HRx0 := Lib.hid (HRx0.out.past hcc11)
  replace HYx0 := Lib.hid (HYx0.out.below' hcc11)
  replace HRx1 := Lib.hid (HRx1.out.past hcc11)
  replace HRx2 := Lib.hid (HRx2.out.past hcc11)
  go_wp2_with fail
  refine (toHoldingS_any A1 n1 c1 xs1 _ hs1' HL1.out ((HX1.out.below BK11).more BK11.size)).mono ?_
  rintro e w12 ⟨gy1, rfl, hHRy1, hb12⟩
  have BK12 := BK11.trans (hb12.mono BK11.size)
  have hz12 : w11.heap.size ≤ w12.heap.size := hb12.size
  replace HA0 := Lib.hid (HA0.out.below' hb12)
  replace HRx0 := Lib.hid (HRx0.out.past hb12)
  replace HYx0 := Lib.hid (HYx0.out.below' hb12)
  replace HRx1 := Lib.hid (HRx1.out.past hb12)
  replace HRx2 := Lib.hid (HRx2.out.past hb12)
  clear hb12
  have HRy1 := Lib.hid hHRy1; clear hHRy1
  have hwy1 := Lib.hid (fun g (hg : some (⟨gy1, 0, none⟩ : Addr) = some ⟨g, 0, none⟩) => show w11.heap.size ≤ g ∧ g < w12.heap.size by have h9 := HRy1.out.lt hg; simpa using h9)
  go_wp2_with fail
  refine (eqHoldingS_any (some ⟨gx1, 0, none⟩) (some ⟨gy1, 0, none⟩) n1 n1 n1 xs1 _ (by omega) HL1.out HRx1.out.rd HRy1.out.rd).mono ?_
  rintro e w13 ⟨rfl, hb13⟩
  have BK13 := BK12.trans (hb13.mono BK12.size)
  have hz13 : w12.heap.size ≤ w13.heap.size := hb13.size
  replace HA0 := Lib.hid (HA0.out.below' hb13)
  replace HRx0 := Lib.hid (HRx0.out.past hb13)
  replace HYx0 := Lib.hid (HYx0.out.below' hb13)
  replace HRx1 := Lib.hid (HRx1.out.past hb13)
  replace HRx2 := Lib.hid (HRx2.out.past hb13)
  replace HRy1 := Lib.hid (HRy1.out.past hb13)
  clear hb13
  go_wp2_with fail
  refine (toScenarioS_any A2 n2 c2 xs2 _ hs2' HL2.out ((HX2.out.below BK13).more BK13.size)).mono ?_
  rintro e w14 ⟨gy2, rfl, hHRy2, hb14⟩
  have BK14 := BK13.trans (hb14.mono BK13.size)
  have hz14 : w13.heap.size ≤ w14.heap.size := hb14.size
  replace HA0 := Lib.hid (HA0.out.below' hb14)
  replace HRx0 := Lib.hid (HRx0.out.past hb14)
  replace HYx0 := Lib.hid (HYx0.out.below' hb14)
  replace HRx1 := Lib.hid (HRx1.out.past hb14)
  replace HRx2 := Lib.hid (HRx2.out.past hb14)
  clear hb14
  have HRy2 := Lib.hid hHRy2; clear hHRy2
  have hwy2 := Lib.hid (fun g (hg : some (⟨gy2, 0, none⟩ : Addr) = some ⟨g, 0, none⟩) => show w13.heap.size ≤ g ∧ g < w14.heap.size by have h9 := HRy2.out.lt hg; simpa using h9)
  go_wp2_with fail
  refine (eqScenarioS_any (some ⟨gx2, 0, none⟩) (some ⟨gy2, 0, none⟩) n2 n2 n2 xs2 _ (by omega) HL2.out HRx2.out.rd HRy2.out.rd).mono ?_
  rintro e w15 ⟨rfl, hb15⟩
  have BK15 := BK14.trans (hb15.mono BK14.size)
  have hz15 : w14.heap.size ≤ w15.heap.size := hb15.size
  replace HA0 := Lib.hid (HA0.out.below' hb15)
  replace HRx0 := Lib.hid (HRx0.out.past hb15)
  replace HYx0 := Lib.hid (HYx0.out.below' hb15)
  replace HRx1 := Lib.hid (HRx1.out.past hb15)
  replace HRx2 := Lib.hid (HRx2.out.past hb15)
  replace HRy2 := Lib.hid (HRy2.out.past hb15)
  clear hb15
  go_wp2
  go_ret
  exact ⟨rfl, BK15⟩

set_option maxRecDepth 100000 in
theorem lifted (os : Os) (started : os.Started) (H : Type) (enc : TypeId × Value → H) :
    ReturnsInHanded {} Try.checked os 11 .any (Rows.fnExactWorstScenarioSpec.pre6 enc Try.prog Try.f11 Rows.fnExactWorstScenarioRow.domain false) (Rows.fnExactWorstScenarioSpec.post enc Try.prog Try.f11 false true false false) := by
  refine law_lifted os started H enc 4 (by kernel_rfl) Try.func11
    (ChangeSpec.witness6 (enc := enc) (C := Try.checked) false ⟨#[], #[.agg #[.int .i64 0, .slice none 0 0, .int .i64 0], .slice none 0 0, .slice none 0 0], []⟩ 8 (by kernel_rfl) (by kernel_rfl) (by kernel_rfl) (by kernel_rfl)) rfl rfl Try.underlying4
    (by rw [Try.params11]; simp only [List.forall_mem_cons]; exact ⟨⟨by kernel_rfl, of_decide_eq_true (by kernel_rfl)⟩, ⟨by kernel_rfl, of_decide_eq_true (by kernel_rfl)⟩, ⟨by kernel_rfl, of_decide_eq_true (by kernel_rfl)⟩, by simp⟩) (fun ds hl => by
      match ds, hl with
      | [d0, d1, d2], _ => rfl) ?_
  intro W base args ds p hval hA
  rw [Try.params11] at hA hval
  obtain ⟨v0, vs0, d0, ds0, p0, q0, hargs, rfl, rfl, h0, rr0⟩ := trodAll_cons hA
  obtain ⟨v1, vs1, d1, ds1, p1, q1, rfl, rfl, rfl, h1, rr1⟩ := trodAll_cons rr0
  obtain ⟨v2, vs2, d2, ds2, p2, q2, rfl, rfl, rfl, h2, rr2⟩ := trodAll_cons rr1
  obtain ⟨rfl, rfl, rfl⟩ := trodAll_nil rr2
  obtain rfl : args = #[v0, v1, v2] := by cases args; simp_all
  obtain ⟨b0, A0, n0, c0, rfl, hn0, hl0, hX0, hf0, i0, j0⟩ := open_basis (hval 0 26 v0 rfl rfl) h0
  obtain ⟨A1, n1, c1, rfl⟩ := okWide_slice Try.underlying75 (hval 1 75 v1 rfl rfl)
  obtain ⟨fu1, ho1⟩ := h1
  obtain ⟨hn1, rw1, hrl1, hrw1, hRd1⟩ := open_rows Try.underlying75 (by kernel_rfl) (by decide) Holding.intCells ho1
  obtain ⟨xs1, hxl1, hxr1, hxf1⟩ := Holding.of_nums rw1 hrw1
  rw [← hxr1] at hRd1
  obtain ⟨A2, n2, c2, rfl⟩ := okWide_slice Try.underlying82 (hval 2 82 v2 rfl rfl)
  obtain ⟨fu2, ho2⟩ := h2
  obtain ⟨hn2, rw2, hrl2, hrw2, hRd2⟩ := open_rows Try.underlying82 (by kernel_rfl) (by decide) Scenario.intCells ho2
  obtain ⟨xs2, hxl2, hxr2, hxf2⟩ := Scenario.of_nums rw2 hrw2
  rw [← hxr2] at hRd2
  exact walk b0 A0 n0 c0 A1 n1 c1 xs1 A2 n2 c2 xs2 W hn0 hl0 hX0 hf0 i0 j0 hn1 (hxl1.trans hrl1) hRd1 hxf1 hn2 (hxl2.trans hrl2) hRd2 hxf2
theorem proved : Rows.FnExactWorstScenarioSaid :=
  OpenClaim.holds_of_wide 11 Try.f11 rfl rfl rfl rfl rfl rfl rfl ⟨rfl, rfl, rfl, rfl, rfl⟩ rfl rfl rfl rfl rfl (by kernel_rfl) Try.func11 (by kernel_rfl)
    (of_decide_eq_true (by kernel_rfl)) (by unfold Func.isWrapper; first | (rw [if_pos (by decide +kernel)]; kernel_rfl) | (rw [if_neg (by decide +kernel)]; exact ⟨rfl, rfl⟩))
    (fun os started H enc _ => lifted os started H enc)
end fnExactWorstScenario
end Go.Proofs.Ythcnkcoplgdlkaa
