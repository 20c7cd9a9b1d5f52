/- The law on AdditionFor: the program's and the reference's results are equal, and the arguments are left as they were. No condition. -/
import Derived.Test.YtkpppajihgnkcaaAdd
import Derived.Test.YtkpppajihgnkcaaLawC
import Derived.Test.YtkpppajihgnkcaaStInt
import Derived.Test.YtkpppajihgnkcaaStHolding
import Derived.Test.YtkpppajihgnkcaaLaw
import Derived.Test.YtkpppajihgnkcaaBase2
namespace Go.Proofs.Ytkpppajihgnkcaa
open Go.ChangeShapes Go.WideShapes Go.ChangeAt Go.RowKit Go.Deep
namespace fnExactAdditionFor
set_option maxRecDepth 100000 in
set_option maxHeartbeats 4000000 in
theorem walk (b0 : Bas) (A0 : Option Addr) (n0 c0 : Nat) (r1 : Holding) (a2 : Int) (w : World) (hn0 : n0 ≤ maxLen) (hl0 : b0.lives.length = n0) (hX0 : Rd w w.heap.size A0 1 (intRows b0.lives)) (hf0 : ∀ x ∈ b0.lives, In64 x) (i0 : In64 b0.first) (j0 : In64 b0.rate) (f1 : r1.fits) (i2 : In64 a2) :
    Calls Try.prog 5 #[.agg #[.int .i64 b0.first, .slice A0 n0 c0, .int .i64 b0.rate], .agg r1.row.toArray, .int .i64 a2] w fun e w' => e = .returned (.bool true) ∧ Below w.heap.size w w' := by
  unfold maxLen at *
  have BK0 : Below w.heap.size w ((w.alloc (.cells #[.int .i64 b0.first, .slice A0 n0 c0, .int .i64 b0.rate] 34)).alloc (.cells r1.row.toArray 51)) := (((Below.refl _ w).alloc (by simp <;> omega) _).alloc (by simp <;> omega) _)
  have HA0 := Lib.hid ((Blk.new w 34 #[.int .i64 b0.first, .slice A0 n0 c0, .int .i64 b0.rate]).alloc (.cells r1.row.toArray 51))
  have HA1 := Lib.hid (Blk.new (w.alloc (.cells #[.int .i64 b0.first, .slice A0 n0 c0, .int .i64 b0.rate] 34)) 51 r1.row.toArray)
  simp only [World.size_alloc] at HA1
  by_cases hs0 : (n0 : Int) ≤ 1048576
  rotate_left
  · clear hX0 hf0 hl0 i0 j0 f1 i2
    go_enter Try.func5, Try.ntmps5
    have hc0 := Lib.hid (Blk.agg (cs := [.int .i64 b0.first, .slice A0 n0 c0, .int .i64 b0.rate]) HA0.out 0 [.int .i64 b0.first, .slice A0 n0 c0, .int .i64 b0.rate] rfl)
    go_wp2_with (refine wpList_load_agg rfl 34 _ rfl ⟨w.heap.size, 0, none⟩ rfl [.int .i64 b0.first, .slice A0 n0 c0, .int .i64 b0.rate] hc0.out _ Try.underlying34 rfl LawBas.size ?_)
    refine (szBasis_no _ _ _ _ _ _ _ (by omega) (by omega) (by omega) (by omega)).mono ?_
    rintro e v1 ⟨rfl, hg1⟩
    have BKg1 := BK0.trans (hg1.mono BK0.size)
    have HAg1 := Lib.hid (HA1.out.below' hg1)
    go_wp2
    go_ret
    exact ⟨rfl, BKg1⟩
  have hs0' : n0 ≤ 1048576 := by omega
  have HLT0 := Lib.hid (show LiesT w A0 n0 b0.lives from ⟨hl0, hs0', hX0, hf0⟩)
  have HT0 := Lib.hid (show b0.lives.length = n0 ∧ n0 ≤ 1048576 ∧ (∀ x ∈ b0.lives, In64 x) ∧ In64 b0.first ∧ In64 b0.rate from ⟨hl0, hs0', hf0, i0, j0⟩)
  clear hl0 hX0 hf0 i0 j0
  have HF1 := Lib.hid f1; clear f1
  have HF2 := Lib.hid i2; clear i2
  go_enter Try.func5, Try.ntmps5
  have hcHA0 := Lib.hid (Blk.agg (cs := [.int .i64 b0.first, .slice A0 n0 c0, .int .i64 b0.rate]) HA0.out 0 [.int .i64 b0.first, .slice A0 n0 c0, .int .i64 b0.rate] rfl)
  go_wp2_with (first | (refine wpList_load_agg rfl 34 _ rfl ⟨w.heap.size, 0, none⟩ rfl [.int .i64 b0.first, .slice A0 n0 c0, .int .i64 b0.rate] hcHA0.out _ Try.underlying34 rfl LawBas.size ?_))
  refine (szBasis_yes _ _ _ _ _ _ _ (by omega) (by omega)).mono ?_
  rintro e w1 ⟨rfl, hb1⟩
  clear hcHA0
  have BK1 := BK0.trans (hb1.mono BK0.size)
  have hz1 : w.heap.size + 1 + 1 ≤ w1.heap.size := by have := hb1.size; simpa using this
  replace HA0 := Lib.hid (HA0.out.below' hb1)
  replace HA1 := Lib.hid (HA1.out.below' hb1)
  clear hb1
  have HS := Lib.hid (show ∀ w', Below w1.heap.size w1 w' → Below w1.heap.size w1 w' ∧ w'.cell? ⟨w.heap.size, 0, none⟩ = some (.int .i64 b0.first) ∧ w'.cell? ⟨w.heap.size, 1, none⟩ = some (.slice A0 n0 c0) ∧ w'.cell? ⟨w.heap.size, 2, none⟩ = some (.int .i64 b0.rate) ∧ w'.cell? ⟨w.heap.size + 1, 0, none⟩ = some (.int .i64 r1.kind) ∧ w'.cell? ⟨w.heap.size + 1, 1, none⟩ = some (.int .i64 r1.age) ∧ w'.cell? ⟨w.heap.size + 1, 2, none⟩ = some (.int .i64 r1.years) ∧ w'.cell? ⟨w.heap.size + 1, 3, none⟩ = some (.int .i64 r1.sum) ∧ w'.cell? ⟨w.heap.size + 1, 4, none⟩ = some (.int .i64 r1.load) ∧ w'.cell? ⟨w.heap.size + 1, 5, none⟩ = some (.int .i64 r1.year) ∧ w'.cell? ⟨w.heap.size + 1, 6, none⟩ = some (.int .i64 r1.count) from fun w' q => by
    have hx0 := HA0.out.below' q
    have hx1 := HA1.out.below' q
    exact ⟨q, (hx0.cell 0), (hx0.cell 1), (hx0.cell 2), (hx1.cell 0), (hx1.cell 1), (hx1.cell 2), (hx1.cell 3), (hx1.cell 4), (hx1.cell 5), (hx1.cell 6)⟩)
  have BKr := BK1
  go_wp2
  go_region_held3 (fun w' => Below w1.heap.size w1 w' ∧ w'.cell? ⟨w.heap.size, 0, none⟩ = some (.int .i64 b0.first) ∧ w'.cell? ⟨w.heap.size, 1, none⟩ = some (.slice A0 n0 c0) ∧ w'.cell? ⟨w.heap.size, 2, none⟩ = some (.int .i64 b0.rate) ∧ w'.cell? ⟨w.heap.size + 1, 0, none⟩ = some (.int .i64 r1.kind) ∧ w'.cell? ⟨w.heap.size + 1, 1, none⟩ = some (.int .i64 r1.age) ∧ w'.cell? ⟨w.heap.size + 1, 2, none⟩ = some (.int .i64 r1.years) ∧ w'.cell? ⟨w.heap.size + 1, 3, none⟩ = some (.int .i64 r1.sum) ∧ w'.cell? ⟨w.heap.size + 1, 4, none⟩ = some (.int .i64 r1.load) ∧ w'.cell? ⟨w.heap.size + 1, 5, none⟩ = some (.int .i64 r1.year) ∧ w'.cell? ⟨w.heap.size + 1, 6, none⟩ = some (.int .i64 r1.count)) (first | exact HS.out _ (Below.drew (Below.refl _ _)) | exact HS.out _ hcc4 | exact HS.out _ hcc3 | exact HS.out _ hcc2 | exact HS.out _ (Below.alloc hcc4 (by first | exact hcc4.size | exact Nat.le_trans (by simp) hcc4.size) _) ) (first | (go_at_call 24; rename Below w1.heap.size w1 _ ∧ _ => hH; have hc0 := hH.1; refine (toBasis_any b0 A0 n0 c0 _ (HLT0.out.past (BKr.trans (hc0.mono BKr.size)))).mono ?_; rintro e w2 ⟨gw0, rfl, hHRw0, hb2⟩; have hcc2 := hc0.trans (hb2.mono hc0.size); have BK2 := BKr.trans (hcc2.mono BKr.size); have hz2 : w1.heap.size ≤ w2.heap.size := hcc2.size; have HRw0 := Lib.hid hHRw0; clear hHRw0; have hww0 := Lib.hid (fun g (hg : some (⟨gw0, 0, none⟩ : Addr) = some ⟨g, 0, none⟩) => HRw0.out.lt hg)) | (go_at_call 31; refine (toHolding_any r1 _).mono ?_; rintro e w3 ⟨rfl, hb3⟩; have hcc3 := hcc2.trans (hb3.mono hcc2.size); have BK3 := BKr.trans (hcc3.mono BKr.size); have hz3 : w2.heap.size ≤ w3.heap.size := hb3.size; have HRw0' := Lib.hid (HRw0.out.past hb3); clear HRw0; have HRw0 := HRw0'; clear HRw0') | (go_at_call 30; refine (spec_AdditionFor_any b0 (some ⟨gw0, 0, none⟩) n0 n0 r1 a2 _ (basT_of HRw0.out HT0.out) HF1.out HF2.out).mono ?_; rintro e w4 ⟨rfl, hb4⟩; have hcc4 := hcc3.trans (hb4.mono hcc3.size); have BK4 := BKr.trans (hcc4.mono BKr.size); have hz4 : w3.heap.size ≤ w4.heap.size := hb4.size; have HRw0' := Lib.hid (HRw0.out.past hb4); clear HRw0; have HRw0 := HRw0'; clear HRw0'))
  all_goals clear HS
  replace HA0 := Lib.hid (HA0.out.below' hcc4)
  replace HA1 := Lib.hid (HA1.out.below' hcc4)
  have hcHA0 := Lib.hid (Blk.agg (cs := [.int .i64 b0.first, .slice A0 n0 c0, .int .i64 b0.rate]) HA0.out 0 [.int .i64 b0.first, .slice A0 n0 c0, .int .i64 b0.rate] rfl)
  go_wp2_with (first | (refine wpList_load_agg rfl 34 _ rfl ⟨w.heap.size, 0, none⟩ rfl [.int .i64 b0.first, .slice A0 n0 c0, .int .i64 b0.rate] hcHA0.out _ Try.underlying34 rfl LawBas.size ?_))
  refine (toBasis_any b0 A0 n0 c0 _ (HLT0.out.past BK4)).mono ?_
  rintro e w5 ⟨gx0, rfl, hHRx0, hb5⟩
  clear hcHA0
  have BK5 := BK4.trans (hb5.mono BK4.size)
  have hz5 : w4.heap.size ≤ w5.heap.size := hb5.size
  replace HA0 := Lib.hid (HA0.out.below' hb5)
  replace HA1 := Lib.hid (HA1.out.below' hb5)
  clear hb5
  have HRx0 := Lib.hid hHRx0; clear hHRx0
  have hwx0 := Lib.hid (fun g (hg : some (⟨gx0, 0, none⟩ : Addr) = some ⟨g, 0, none⟩) => show w4.heap.size ≤ g ∧ g < w5.heap.size by have h9 := HRx0.out.lt hg; simpa using h9)
  have hbax0 : Below w5.heap.size w5 (w5.alloc (.cells #[.int .i64 b0.first, .slice (some ⟨gx0, 0, none⟩) n0 n0, .int .i64 b0.rate] 39)) := (Below.refl _ _).alloc (Nat.le_refl _) _
  replace HA0 := Lib.hid (HA0.out.below' hbax0)
  replace HA1 := Lib.hid (HA1.out.below' hbax0)
  replace HRx0 := Lib.hid (HRx0.out.past hbax0)
  have HYx0 := Lib.hid (Blk.new w5 39 #[.int .i64 b0.first, .slice (some ⟨gx0, 0, none⟩) n0 n0, .int .i64 b0.rate])
  replace BK5 := BK5.trans (hbax0.mono BK5.size)
  clear hbax0
  have HS := Lib.hid (show ∀ w', Below (w5.alloc (.cells #[.int .i64 b0.first, .slice (some ⟨gx0, 0, none⟩) n0 n0, .int .i64 b0.rate] 39)).heap.size (w5.alloc (.cells #[.int .i64 b0.first, .slice (some ⟨gx0, 0, none⟩) n0 n0, .int .i64 b0.rate] 39)) w' → Below (w5.alloc (.cells #[.int .i64 b0.first, .slice (some ⟨gx0, 0, none⟩) n0 n0, .int .i64 b0.rate] 39)).heap.size (w5.alloc (.cells #[.int .i64 b0.first, .slice (some ⟨gx0, 0, none⟩) n0 n0, .int .i64 b0.rate] 39)) w' ∧ w'.cell? ⟨w5.heap.size, 0, none⟩ = some (.int .i64 b0.first) ∧ w'.cell? ⟨w5.heap.size, 1, none⟩ = some (.slice (some ⟨gx0, 0, none⟩) n0 n0) ∧ w'.cell? ⟨w5.heap.size, 2, none⟩ = some (.int .i64 b0.rate) ∧ w'.cell? ⟨w.heap.size + 1, 0, none⟩ = some (.int .i64 r1.kind) ∧ w'.cell? ⟨w.heap.size + 1, 1, none⟩ = some (.int .i64 r1.age) ∧ w'.cell? ⟨w.heap.size + 1, 2, none⟩ = some (.int .i64 r1.years) ∧ w'.cell? ⟨w.heap.size + 1, 3, none⟩ = some (.int .i64 r1.sum) ∧ w'.cell? ⟨w.heap.size + 1, 4, none⟩ = some (.int .i64 r1.load) ∧ w'.cell? ⟨w.heap.size + 1, 5, none⟩ = some (.int .i64 r1.year) ∧ w'.cell? ⟨w.heap.size + 1, 6, none⟩ = some (.int .i64 r1.count) from fun w' q => by
    have hx0 := HYx0.out.below' q
    have hx1 := HA1.out.below' q
    exact ⟨q, (hx0.cell 0), (hx0.cell 1), (hx0.cell 2), (hx1.cell 0), (hx1.cell 1), (hx1.cell 2), (hx1.cell 3), (hx1.cell 4), (hx1.cell 5), (hx1.cell 6)⟩)
  have BKr := BK5
  go_wp2
  go_region_held3 (fun w' => Below (w5.alloc (.cells #[.int .i64 b0.first, .slice (some ⟨gx0, 0, none⟩) n0 n0, .int .i64 b0.rate] 39)).heap.size (w5.alloc (.cells #[.int .i64 b0.first, .slice (some ⟨gx0, 0, none⟩) n0 n0, .int .i64 b0.rate] 39)) w' ∧ w'.cell? ⟨w5.heap.size, 0, none⟩ = some (.int .i64 b0.first) ∧ w'.cell? ⟨w5.heap.size, 1, none⟩ = some (.slice (some ⟨gx0, 0, none⟩) n0 n0) ∧ w'.cell? ⟨w5.heap.size, 2, none⟩ = some (.int .i64 b0.rate) ∧ w'.cell? ⟨w.heap.size + 1, 0, none⟩ = some (.int .i64 r1.kind) ∧ w'.cell? ⟨w.heap.size + 1, 1, none⟩ = some (.int .i64 r1.age) ∧ w'.cell? ⟨w.heap.size + 1, 2, none⟩ = some (.int .i64 r1.years) ∧ w'.cell? ⟨w.heap.size + 1, 3, none⟩ = some (.int .i64 r1.sum) ∧ w'.cell? ⟨w.heap.size + 1, 4, none⟩ = some (.int .i64 r1.load) ∧ w'.cell? ⟨w.heap.size + 1, 5, none⟩ = some (.int .i64 r1.year) ∧ w'.cell? ⟨w.heap.size + 1, 6, none⟩ = some (.int .i64 r1.count)) (first | exact HS.out _ (Below.drew (Below.refl _ _)) | exact HS.out _ hcc7 | exact HS.out _ hcc6 | exact HS.out _ (Below.alloc hcc7 (by first | exact hcc7.size | exact Nat.le_trans (by simp) hcc7.size) _) ) (first | (go_at_call 31; rename Below (w5.alloc (.cells #[.int .i64 b0.first, .slice (some ⟨gx0, 0, none⟩) n0 n0, .int .i64 b0.rate] 39)).heap.size (w5.alloc (.cells #[.int .i64 b0.first, .slice (some ⟨gx0, 0, none⟩) n0 n0, .int .i64 b0.rate] 39)) _ ∧ _ => hH; have hc0 := hH.1; refine (toHolding_any r1 _).mono ?_; rintro e w6 ⟨rfl, hb6⟩; have hcc6 := hc0.trans (hb6.mono hc0.size); have BK6 := BKr.trans (hcc6.mono BKr.size); have hz6 : (w5.alloc (.cells #[.int .i64 b0.first, .slice (some ⟨gx0, 0, none⟩) n0 n0, .int .i64 b0.rate] 39)).heap.size ≤ w6.heap.size := hcc6.size) | (go_at_call 32; refine (impl_AdditionFor_any b0 (some ⟨gx0, 0, none⟩) n0 n0 r1 a2 _ (basT_of (HRx0.out.past hcc6) HT0.out) HF1.out HF2.out).mono ?_; rintro e w7 ⟨rfl, hb7⟩; have hcc7 := hcc6.trans (hb7.mono hcc6.size); have BK7 := BKr.trans (hcc7.mono BKr.size); have hz7 : w6.heap.size ≤ w7.heap.size := hb7.size))
  all_goals clear HS
  replace HA0 := Lib.hid (HA0.out.below' hcc7)
  replace HA1 := Lib.hid (HA1.out.below' hcc7)
  replace HRx0 := Lib.hid (HRx0.out.past hcc7)
  replace HYx0 := Lib.hid (HYx0.out.below' hcc7)
  have HS := Lib.hid (show ∀ w', Below w7.heap.size w7 w' → Below w7.heap.size w7 w' ∧ w'.cell? ⟨w5.heap.size, 0, none⟩ = some (.int .i64 b0.first) ∧ w'.cell? ⟨w5.heap.size, 1, none⟩ = some (.slice (some ⟨gx0, 0, none⟩) n0 n0) ∧ w'.cell? ⟨w5.heap.size, 2, none⟩ = some (.int .i64 b0.rate) ∧ w'.cell? ⟨w.heap.size, 0, none⟩ = some (.int .i64 b0.first) ∧ w'.cell? ⟨w.heap.size, 1, none⟩ = some (.slice A0 n0 c0) ∧ w'.cell? ⟨w.heap.size, 2, none⟩ = some (.int .i64 b0.rate) from fun w' q => by
    have hx0 := HYx0.out.below' q
    have hx1 := HA0.out.below' q
    exact ⟨q, (hx0.cell 0), (hx0.cell 1), (hx0.cell 2), (hx1.cell 0), (hx1.cell 1), (hx1.cell 2)⟩)
  have BKr := BK7
  go_wp2
  go_region_held3 (fun w' => Below w7.heap.size w7 w' ∧ w'.cell? ⟨w5.heap.size, 0, none⟩ = some (.int .i64 b0.first) ∧ w'.cell? ⟨w5.heap.size, 1, none⟩ = some (.slice (some ⟨gx0, 0, none⟩) n0 n0) ∧ w'.cell? ⟨w5.heap.size, 2, none⟩ = some (.int .i64 b0.rate) ∧ w'.cell? ⟨w.heap.size, 0, none⟩ = some (.int .i64 b0.first) ∧ w'.cell? ⟨w.heap.size, 1, none⟩ = some (.slice A0 n0 c0) ∧ w'.cell? ⟨w.heap.size, 2, none⟩ = some (.int .i64 b0.rate)) (first | exact HS.out _ (Below.drew (Below.refl _ _)) | exact HS.out _ hcc9 | exact HS.out _ hcc8 | exact HS.out _ (Below.alloc hcc9 (by first | exact hcc9.size | exact Nat.le_trans (by simp) hcc9.size) _) ) (first | (go_at_call 24; rename Below w7.heap.size w7 _ ∧ _ => hH; have hc0 := hH.1; refine (toBasis_any b0 A0 n0 c0 _ (HLT0.out.past (BKr.trans (hc0.mono BKr.size)))).mono ?_; rintro e w8 ⟨gy0, rfl, hHRy0, hb8⟩; have hcc8 := hc0.trans (hb8.mono hc0.size); have BK8 := BKr.trans (hcc8.mono BKr.size); have hz8 : w7.heap.size ≤ w8.heap.size := hcc8.size; have HRy0 := Lib.hid hHRy0; clear hHRy0; have hwy0 := Lib.hid (fun g (hg : some (⟨gy0, 0, none⟩ : Addr) = some ⟨g, 0, none⟩) => HRy0.out.lt hg)) | (go_at_call 27; refine (eqBasis_any b0 (some ⟨gx0, 0, none⟩) (some ⟨gy0, 0, none⟩) n0 n0 n0 _ (by omega) (basT_of (HRx0.out.past hcc8) HT0.out) (basT_of HRy0.out HT0.out)).mono ?_; rintro e w9 ⟨rfl, hb9⟩; have hcc9 := hcc8.trans (hb9.mono hcc8.size); have BK9 := BKr.trans (hcc9.mono BKr.size); have hz9 : w8.heap.size ≤ w9.heap.size := hb9.size; have HRy0' := Lib.hid (HRy0.out.past hb9); clear HRy0; have HRy0 := HRy0'; clear HRy0'))
  all_goals clear HS
  replace HA0 := Lib.hid (HA0.out.below' hcc9)
  replace HA1 := Lib.hid (HA1.out.below' hcc9)
  replace HRx0 := Lib.hid (HRx0.out.past hcc9)
  replace HYx0 := Lib.hid (HYx0.out.below' hcc9)
  go_wp2
  go_ret
  exact ⟨rfl, BK9⟩

set_option maxRecDepth 100000 in
theorem lifted (os : Os) (started : os.Started) (H : Type) (enc : TypeId × Value → H) :
    ReturnsInHanded {} Try.checked os 5 .any (Rows.fnExactAdditionForSpec.pre6 enc Try.prog Try.f5 Rows.fnExactAdditionForRow.domain false) (Rows.fnExactAdditionForSpec.post enc Try.prog Try.f5 false true false false) := by
  refine law_lifted os started H enc 4 (by kernel_rfl) Try.func5
    (ChangeSpec.witness6 (enc := enc) (C := Try.checked) false ⟨#[], #[.agg #[.int .i64 0, .slice none 0 0, .int .i64 0], .agg #[.int .i64 0, .int .i64 0, .int .i64 0, .int .i64 0, .int .i64 0, .int .i64 0, .int .i64 0], .int .i64 0], []⟩ 8 (by kernel_rfl) (by kernel_rfl) (by kernel_rfl) (by kernel_rfl)) rfl rfl Try.underlying4
    (by rw [Try.params5]; simp only [List.forall_mem_cons]; exact ⟨⟨by kernel_rfl, of_decide_eq_true (by kernel_rfl)⟩, ⟨by kernel_rfl, of_decide_eq_true (by kernel_rfl)⟩, ⟨by kernel_rfl, of_decide_eq_true (by kernel_rfl)⟩, by simp⟩) (fun ds hl => by
      match ds, hl with
      | [d0, d1, d2], _ => rfl) ?_
  intro W base args ds p hval hA
  rw [Try.params5] at hA hval
  obtain ⟨v0, vs0, d0, ds0, p0, q0, hargs, rfl, rfl, h0, rr0⟩ := trodAll_cons hA
  obtain ⟨v1, vs1, d1, ds1, p1, q1, rfl, rfl, rfl, h1, rr1⟩ := trodAll_cons rr0
  obtain ⟨v2, vs2, d2, ds2, p2, q2, rfl, rfl, rfl, h2, rr2⟩ := trodAll_cons rr1
  obtain ⟨rfl, rfl, rfl⟩ := trodAll_nil rr2
  obtain rfl : args = #[v0, v1, v2] := by cases args; simp_all
  obtain ⟨b0, A0, n0, c0, rfl, hn0, hl0, hX0, hf0, i0, j0⟩ := open_basis (hval 0 34 v0 rfl rfl) h0
  obtain ⟨zs1, rfl, hzl1, hzf1⟩ := open_aggs Try.underlying51 Holding.intCells (hval 1 51 v1 rfl rfl) h1
  obtain ⟨r1, hr1, hrf1⟩ := Holding.of_num hzl1 hzf1
  rw [hr1]
  obtain ⟨a2, rfl, rfl, rfl, wf2⟩ := open_int Try.underlying2 (hval 2 2 v2 rfl rfl) h2
  exact walk b0 A0 n0 c0 r1 a2 W hn0 hl0 hX0 hf0 i0 j0 hrf1 (in64_of_wf wf2)
theorem proved : Rows.FnExactAdditionForSaid :=
  OpenClaim.holds_of_wide 5 Try.f5 rfl rfl rfl rfl rfl rfl rfl ⟨rfl, rfl, rfl, rfl, rfl⟩ rfl rfl rfl rfl rfl (by kernel_rfl) Try.func5 (by kernel_rfl)
    (of_decide_eq_true (by kernel_rfl)) (by unfold Func.isWrapper; first | (rw [if_pos (by decide +kernel)]; kernel_rfl) | (rw [if_neg (by decide +kernel)]; exact ⟨rfl, rfl⟩))
    (fun os started H enc _ => lifted os started H enc)
end fnExactAdditionFor
end Go.Proofs.Ytkpppajihgnkcaa
