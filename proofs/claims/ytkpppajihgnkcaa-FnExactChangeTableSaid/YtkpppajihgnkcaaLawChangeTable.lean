/- The law on ChangeTable: the program's and the reference's results are equal, and the arguments are left as they were. No condition. -/
import Derived.Test.YtkpppajihgnkcaaChg2
import Derived.Test.YtkpppajihgnkcaaLawC
import Derived.Test.YtkpppajihgnkcaaStInt
import Derived.Test.YtkpppajihgnkcaaLaw
import Derived.Test.YtkpppajihgnkcaaBase2
namespace Go.Proofs.Ytkpppajihgnkcaa
open Go.ChangeShapes Go.WideShapes Go.ChangeAt Go.RowKit Go.Deep
namespace fnExactChangeTable
set_option maxRecDepth 100000 in
set_option maxHeartbeats 4000000 in
theorem walk (f0 : Int) (A0 : Option Addr) (n0 c0 : Nat) (xs0 : List Int) (a1 : Int) (w : World) (hn0 : n0 ≤ maxLen) (hl0 : xs0.length = n0) (hX0 : Rd w w.heap.size A0 1 (intRows xs0)) (hf0 : ∀ x ∈ xs0, In64 x) (i0 : In64 f0) (i1 : In64 a1) :
    Calls Try.prog 3 #[.agg #[.int .i64 f0, .slice A0 n0 c0], .int .i64 a1] w fun e w' => e = .returned (.bool true) ∧ Below w.heap.size w w' := by
  unfold maxLen at *
  have BK0 : Below w.heap.size w (w.alloc (.cells #[.int .i64 f0, .slice A0 n0 c0] 24)) := ((Below.refl _ w).alloc (by simp <;> omega) _)
  have HA0 := Lib.hid (Blk.new w 24 #[.int .i64 f0, .slice A0 n0 c0])
  by_cases hs0 : (n0 : Int) ≤ 1048576
  rotate_left
  · clear hX0 hf0 hl0 i0 i1
    go_enter Try.func3, Try.ntmps3
    have hc0 := Lib.hid (Blk.agg (cs := [.int .i64 f0, .slice A0 n0 c0]) HA0.out 0 [.int .i64 f0, .slice A0 n0 c0] rfl)
    go_wp2_with (refine wpList_load_agg rfl 24 _ rfl ⟨w.heap.size, 0, none⟩ rfl [.int .i64 f0, .slice A0 n0 c0] hc0.out _ Try.underlying24 rfl LawLT.size ?_)
    refine (szLifeTable_no _ _ _ _ _ _ (by omega) (by omega) (by omega) (by omega)).mono ?_
    rintro e v1 ⟨rfl, hg1⟩
    have BKg1 := BK0.trans (hg1.mono BK0.size)
    go_wp2
    go_ret
    exact ⟨rfl, BKg1⟩
  have hs0' : n0 ≤ 1048576 := by omega
  have HLT0 := Lib.hid (show LiesT w A0 n0 xs0 from ⟨hl0, hs0', hX0, hf0⟩)
  have HT0 := Lib.hid (show xs0.length = n0 ∧ n0 ≤ 1048576 ∧ (∀ x ∈ xs0, In64 x) ∧ In64 f0 from ⟨hl0, hs0', hf0, i0⟩)
  clear hl0 hX0 hf0 i0
  have HF1 := Lib.hid i1; clear i1
  go_enter Try.func3, Try.ntmps3
  have hcHA0 := Lib.hid (Blk.agg (cs := [.int .i64 f0, .slice A0 n0 c0]) HA0.out 0 [.int .i64 f0, .slice A0 n0 c0] rfl)
  go_wp2_with (first | (refine wpList_load_agg rfl 24 _ rfl ⟨w.heap.size, 0, none⟩ rfl [.int .i64 f0, .slice A0 n0 c0] hcHA0.out _ Try.underlying24 rfl LawLT.size ?_))
  refine (szLifeTable_yes _ _ _ _ _ _ (by omega) (by omega)).mono ?_
  rintro e w1 ⟨rfl, hb1⟩
  clear hcHA0
  have BK1 := BK0.trans (hb1.mono BK0.size)
  have hz1 : w.heap.size + 1 ≤ w1.heap.size := by have := hb1.size; simpa using this
  replace HA0 := Lib.hid (HA0.out.below' hb1)
  clear hb1
  have hcHA0 := Lib.hid (Blk.agg (cs := [.int .i64 f0, .slice A0 n0 c0]) HA0.out 0 [.int .i64 f0, .slice A0 n0 c0] rfl)
  go_wp2_with (first | (refine wpList_load_agg rfl 24 _ rfl ⟨w.heap.size, 0, none⟩ rfl [.int .i64 f0, .slice A0 n0 c0] hcHA0.out _ Try.underlying24 rfl LawLT.size ?_))
  refine (toLifeTable_any f0 A0 n0 c0 xs0 _ hs0' HT0.out.1 (HLT0.out.past BK1).rd).mono ?_
  rintro e w2 ⟨gw0, rfl, hHRw0, hb2⟩
  clear hcHA0
  have BK2 := BK1.trans (hb2.mono BK1.size)
  have hz2 : w1.heap.size ≤ w2.heap.size := hb2.size
  replace HA0 := Lib.hid (HA0.out.below' hb2)
  clear hb2
  have HRw0 := Lib.hid hHRw0; clear hHRw0
  have hww0 := Lib.hid (fun g (hg : some (⟨gw0, 0, none⟩ : Addr) = some ⟨g, 0, none⟩) => show w1.heap.size ≤ g ∧ g < w2.heap.size by have h9 := HRw0.out.lt hg; simpa using h9)
  go_wp2_with fail
  refine (spec_ChangeTable_any f0 (some ⟨gw0, 0, none⟩) n0 n0 xs0 a1 _ ⟨HT0.out.1, hs0', HRw0.out.rd, HT0.out.2.2.1⟩ (Nat.le_refl _) HT0.out.2.2.2 HF1.out).mono ?_
  rintro e w3 ⟨AW0, nW0, cW0, rfl, hHRW0, hb3⟩
  have BK3 := BK2.trans (hb3.mono BK2.size)
  have hz3 : w2.heap.size ≤ w3.heap.size := hb3.size
  replace HA0 := Lib.hid (HA0.out.below' hb3)
  replace HRw0 := Lib.hid (HRw0.out.past hb3)
  clear hb3
  have HRW0 := Lib.hid hHRW0; clear hHRW0
  have hwW0 := Lib.hid (fun g (hg : AW0 = some ⟨g, 0, none⟩) => show w2.heap.size ≤ g ∧ g < w3.heap.size by have h9 := HRW0.out.lt hg; simpa using h9)
  have hmW0 : nW0 ≤ 1048576 := by have h1 := HRW0.out.len; rw [intRows_length] at h1; have := chgT_small f0 xs0 a1; omega
  have hbaW0 : Below w3.heap.size w3 (w3.alloc (.cells #[.int .i64 (chgTP f0 xs0 a1).1, .slice AW0 nW0 cW0] 26)) := (Below.refl _ _).alloc (Nat.le_refl _) _
  replace HA0 := Lib.hid (HA0.out.below' hbaW0)
  replace HRW0 := Lib.hid (HRW0.out.past hbaW0)
  have HYW0 := Lib.hid (Blk.new w3 26 #[.int .i64 (chgTP f0 xs0 a1).1, .slice AW0 nW0 cW0])
  replace BK3 := BK3.trans (hbaW0.mono BK3.size)
  clear hbaW0
  have hcHA0 := Lib.hid (Blk.agg (cs := [.int .i64 f0, .slice A0 n0 c0]) HA0.out 0 [.int .i64 f0, .slice A0 n0 c0] rfl)
  go_wp2_with (first | (refine wpList_load_agg rfl 24 _ rfl ⟨w.heap.size, 0, none⟩ rfl [.int .i64 f0, .slice A0 n0 c0] hcHA0.out _ Try.underlying24 rfl LawLT.size ?_))
  refine (toLifeTable_any f0 A0 n0 c0 xs0 _ hs0' HT0.out.1 (HLT0.out.past BK3).rd).mono ?_
  rintro e w4 ⟨gx0, rfl, hHRx0, hb4⟩
  clear hcHA0
  have BK4 := BK3.trans (hb4.mono BK3.size)
  have hz4 : w3.heap.size + 1 ≤ w4.heap.size := by have := hb4.size; simpa using this
  replace HA0 := Lib.hid (HA0.out.below' hb4)
  replace HRW0 := Lib.hid (HRW0.out.past hb4)
  replace HYW0 := Lib.hid (HYW0.out.below' hb4)
  clear hb4
  have HRx0 := Lib.hid hHRx0; clear hHRx0
  have hwx0 := Lib.hid (fun g (hg : some (⟨gx0, 0, none⟩ : Addr) = some ⟨g, 0, none⟩) => show w3.heap.size + 1 ≤ g ∧ g < w4.heap.size by have h9 := HRx0.out.lt hg; simpa using h9)
  have hbax0 : Below w4.heap.size w4 (w4.alloc (.cells #[.int .i64 f0, .slice (some ⟨gx0, 0, none⟩) n0 n0] 26)) := (Below.refl _ _).alloc (Nat.le_refl _) _
  replace HA0 := Lib.hid (HA0.out.below' hbax0)
  replace HRW0 := Lib.hid (HRW0.out.past hbax0)
  replace HYW0 := Lib.hid (HYW0.out.below' hbax0)
  replace HRx0 := Lib.hid (HRx0.out.past hbax0)
  have HYx0 := Lib.hid (Blk.new w4 26 #[.int .i64 f0, .slice (some ⟨gx0, 0, none⟩) n0 n0])
  replace BK4 := BK4.trans (hbax0.mono BK4.size)
  clear hbax0
  have hcHYx0 := Lib.hid (Blk.agg (cs := [.int .i64 f0, .slice (some ⟨gx0, 0, none⟩) n0 n0]) HYx0.out 0 [.int .i64 f0, .slice (some ⟨gx0, 0, none⟩) n0 n0] rfl)
  go_wp2_with (first | (refine wpList_load_agg rfl 26 _ rfl ⟨w4.heap.size, 0, none⟩ rfl [.int .i64 f0, .slice (some ⟨gx0, 0, none⟩) n0 n0] hcHYx0.out _ Try.underlying26 rfl Tab.size ?_))
  refine (impl_ChangeTable_any f0 (some ⟨gx0, 0, none⟩) n0 n0 xs0 a1 _ ⟨HT0.out.1, hs0', HRx0.out.rd, HT0.out.2.2.1⟩ (Nat.le_refl _) HT0.out.2.2.2 HF1.out).mono ?_
  rintro e w5 ⟨AG0, nG0, cG0, rfl, hHRG0, hb5⟩
  clear hcHYx0
  have BK5 := BK4.trans (hb5.mono BK4.size)
  have hz5 : w4.heap.size + 1 ≤ w5.heap.size := by have := hb5.size; simpa using this
  replace HA0 := Lib.hid (HA0.out.below' hb5)
  replace HRW0 := Lib.hid (HRW0.out.past hb5)
  replace HYW0 := Lib.hid (HYW0.out.below' hb5)
  replace HRx0 := Lib.hid (HRx0.out.past hb5)
  replace HYx0 := Lib.hid (HYx0.out.below' hb5)
  clear hb5
  have HRG0 := Lib.hid hHRG0; clear hHRG0
  have hwG0 := Lib.hid (fun g (hg : AG0 = some ⟨g, 0, none⟩) => show w4.heap.size + 1 ≤ g ∧ g < w5.heap.size by have h9 := HRG0.out.lt hg; simpa using h9)
  have hmG0 : nG0 ≤ 1048576 := by have h1 := HRG0.out.len; rw [intRows_length] at h1; have := chgT_small f0 xs0 a1; omega
  have hbaG0 : Below w5.heap.size w5 (w5.alloc (.cells #[.int .i64 (chgTP f0 xs0 a1).1, .slice AG0 nG0 cG0] 26)) := (Below.refl _ _).alloc (Nat.le_refl _) _
  replace HA0 := Lib.hid (HA0.out.below' hbaG0)
  replace HRW0 := Lib.hid (HRW0.out.past hbaG0)
  replace HYW0 := Lib.hid (HYW0.out.below' hbaG0)
  replace HRx0 := Lib.hid (HRx0.out.past hbaG0)
  replace HYx0 := Lib.hid (HYx0.out.below' hbaG0)
  replace HRG0 := Lib.hid (HRG0.out.past hbaG0)
  have HYG0 := Lib.hid (Blk.new w5 26 #[.int .i64 (chgTP f0 xs0 a1).1, .slice AG0 nG0 cG0])
  replace BK5 := BK5.trans (hbaG0.mono BK5.size)
  clear hbaG0
  obtain rfl : nW0 = nG0 := by have h1 := HRG0.out.len; have h2 := HRW0.out.len; omega
  have hcHYG0 := Lib.hid (Blk.agg (cs := [.int .i64 (chgTP f0 xs0 a1).1, .slice AG0 nW0 cG0]) HYG0.out 0 [.int .i64 (chgTP f0 xs0 a1).1, .slice AG0 nW0 cG0] rfl)
  have hcHYW0 := Lib.hid (Blk.agg (cs := [.int .i64 (chgTP f0 xs0 a1).1, .slice AW0 nW0 cW0]) HYW0.out 0 [.int .i64 (chgTP f0 xs0 a1).1, .slice AW0 nW0 cW0] rfl)
  go_wp2_with (first | (refine wpList_load_agg rfl 26 _ rfl ⟨w5.heap.size, 0, none⟩ rfl [.int .i64 (chgTP f0 xs0 a1).1, .slice AG0 nW0 cG0] hcHYG0.out _ Try.underlying26 rfl Tab.size ?_) | (refine wpList_load_agg rfl 26 _ rfl ⟨w3.heap.size, 0, none⟩ rfl [.int .i64 (chgTP f0 xs0 a1).1, .slice AW0 nW0 cW0] hcHYW0.out _ Try.underlying26 rfl Tab.size ?_))
  refine (eqLifeTable_any (chgTP f0 xs0 a1).1 AG0 AW0 nW0 cG0 cW0 (chgTP f0 xs0 a1).2.1 _ (by omega) (by have := HRG0.out.len; rwa [intRows_length] at this) HRG0.out.rd HRW0.out.rd).mono ?_
  rintro e w6 ⟨rfl, hb6⟩
  clear hcHYG0
  clear hcHYW0
  have BK6 := BK5.trans (hb6.mono BK5.size)
  have hz6 : w5.heap.size + 1 ≤ w6.heap.size := by have := hb6.size; simpa using this
  replace HA0 := Lib.hid (HA0.out.below' hb6)
  replace HRW0 := Lib.hid (HRW0.out.past hb6)
  replace HYW0 := Lib.hid (HYW0.out.below' hb6)
  replace HRx0 := Lib.hid (HRx0.out.past hb6)
  replace HYx0 := Lib.hid (HYx0.out.below' hb6)
  replace HRG0 := Lib.hid (HRG0.out.past hb6)
  replace HYG0 := Lib.hid (HYG0.out.below' hb6)
  clear hb6
  have HS := Lib.hid (show ∀ w', Below w6.heap.size w6 w' → Below w6.heap.size w6 w' ∧ w'.cell? ⟨w4.heap.size, 0, none⟩ = some (.int .i64 f0) ∧ w'.cell? ⟨w4.heap.size, 1, none⟩ = some (.slice (some ⟨gx0, 0, none⟩) n0 n0) ∧ w'.cell? ⟨w.heap.size, 0, none⟩ = some (.int .i64 f0) ∧ w'.cell? ⟨w.heap.size, 1, none⟩ = some (.slice A0 n0 c0) from fun w' q => by
    have hx0 := HYx0.out.below' q
    have hx1 := HA0.out.below' q
    exact ⟨q, (hx0.cell 0), (hx0.cell 1), (hx1.cell 0), (hx1.cell 1)⟩)
  have BKr := BK6
  go_wp2
  go_region_held3 (fun w' => Below w6.heap.size w6 w' ∧ w'.cell? ⟨w4.heap.size, 0, none⟩ = some (.int .i64 f0) ∧ w'.cell? ⟨w4.heap.size, 1, none⟩ = some (.slice (some ⟨gx0, 0, none⟩) n0 n0) ∧ w'.cell? ⟨w.heap.size, 0, none⟩ = some (.int .i64 f0) ∧ w'.cell? ⟨w.heap.size, 1, none⟩ = some (.slice A0 n0 c0)) (first | exact HS.out _ (Below.drew (Below.refl _ _)) | exact HS.out _ hcc8 | exact HS.out _ hcc7 | exact HS.out _ (Below.alloc hcc8 (by first | exact hcc8.size | exact Nat.le_trans (by simp) hcc8.size) _) ) (first | (go_at_call 17; rename Below w6.heap.size w6 _ ∧ _ => hH; have hc0 := hH.1; refine (toLifeTable_any f0 A0 n0 c0 xs0 _ hs0' HT0.out.1 (HLT0.out.past (BKr.trans (hc0.mono BKr.size))).rd).mono ?_; rintro e w7 ⟨gy0, rfl, hHRy0, hb7⟩; have hcc7 := hc0.trans (hb7.mono hc0.size); have BK7 := BKr.trans (hcc7.mono BKr.size); have hz7 : w6.heap.size ≤ w7.heap.size := hcc7.size; have HRy0 := Lib.hid hHRy0; clear hHRy0; have hwy0 := Lib.hid (fun g (hg : some (⟨gy0, 0, none⟩ : Addr) = some ⟨g, 0, none⟩) => HRy0.out.lt hg)) | (go_at_call 19; refine (eqLifeTable_any f0 (some ⟨gx0, 0, none⟩) (some ⟨gy0, 0, none⟩) n0 n0 n0 xs0 _ (by omega) HT0.out.1 (HRx0.out.past hcc7).rd HRy0.out.rd).mono ?_; rintro e w8 ⟨rfl, hb8⟩; have hcc8 := hcc7.trans (hb8.mono hcc7.size); have BK8 := BKr.trans (hcc8.mono BKr.size); have hz8 : w7.heap.size ≤ w8.heap.size := hb8.size; have HRy0' := Lib.hid (HRy0.out.past hb8); clear HRy0; have HRy0 := HRy0'; clear HRy0'))
  all_goals clear HS
  replace HA0 := Lib.hid (HA0.out.below' hcc8)
  replace HRW0 := Lib.hid (HRW0.out.past hcc8)
  replace HYW0 := Lib.hid (HYW0.out.below' hcc8)
  replace HRx0 := Lib.hid (HRx0.out.past hcc8)
  replace HYx0 := Lib.hid (HYx0.out.below' hcc8)
  replace HRG0 := Lib.hid (HRG0.out.past hcc8)
  replace HYG0 := Lib.hid (HYG0.out.below' hcc8)
  have hcHYx0 := Lib.hid (Blk.agg (cs := [.int .i64 f0, .slice (some ⟨gx0, 0, none⟩) n0 n0]) HYx0.out 0 [.int .i64 f0, .slice (some ⟨gx0, 0, none⟩) n0 n0] rfl)
  go_wp2_with (first | (refine wpList_load_agg rfl 26 _ rfl ⟨w4.heap.size, 0, none⟩ rfl [.int .i64 f0, .slice (some ⟨gx0, 0, none⟩) n0 n0] hcHYx0.out _ Try.underlying26 rfl Tab.size ?_))
  refine (markLifeTable_at _ f0 (some ⟨gx0, 0, none⟩) n0 n0 (1) _ _ _ hs0' (by omega) HRx0.out (by omega)).mono ?_
  rintro e w9 ⟨rfl, ⟨u9, hu9, ht9⟩, _⟩
  clear hcHYx0
  have hzu9 : w8.heap.size ≤ u9.heap.size := hu9.size
  have BKu9 := BK8.trans (hu9.mono BK8.size)
  replace HA0 := Lib.hid (HA0.out.below' hu9)
  replace HRW0 := Lib.hid (HRW0.out.past hu9)
  replace HYW0 := Lib.hid (HYW0.out.below' hu9)
  replace HRx0 := Lib.hid (HRx0.out.past hu9)
  replace HYx0 := Lib.hid (HYx0.out.below' hu9)
  replace HRG0 := Lib.hid (HRG0.out.past hu9)
  replace HYG0 := Lib.hid (HYG0.out.below' hu9)
  have BK9 := BKu9.trans (ht9.below BKu9.size (fun g hg => by have := hwx0.out g hg; omega))
  have hz9 : u9.heap.size ≤ w9.heap.size := ht9.size
  replace HA0 := Lib.hid (ht9.blk HA0.out (fun g hg => by have := hwx0.out g hg; omega))
  replace HRW0 := Lib.hid (ht9.res HRW0.out (fun g hg hg' => by have := hwx0.out g hg; have := hwW0.out g hg'; omega))
  replace HYW0 := Lib.hid (ht9.blk HYW0.out (fun g hg => by have := hwx0.out g hg; omega))
  replace HYx0 := Lib.hid (ht9.blk HYx0.out (fun g hg => by have := hwx0.out g hg; omega))
  replace HRG0 := Lib.hid (ht9.res HRG0.out (fun g hg hg' => by have := hwx0.out g hg; have := hwG0.out g hg'; omega))
  replace HYG0 := Lib.hid (ht9.blk HYG0.out (fun g hg => by have := hwx0.out g hg; omega))
  clear ht9
  have q1 : w9.cell? ⟨w5.heap.size, 0, none⟩ = some (.int .i64 (chgTP f0 xs0 a1).1) := HYG0.out.cell 0
  have q2 : w9.cell? ⟨w5.heap.size, 1, none⟩ = some (.slice AG0 nW0 cG0) := HYG0.out.cell 1
  have q3 : w9.cell? ⟨w3.heap.size, 0, none⟩ = some (.int .i64 (chgTP f0 xs0 a1).1) := HYW0.out.cell 0
  have q4 : w9.cell? ⟨w3.heap.size, 1, none⟩ = some (.slice AW0 nW0 cW0) := HYW0.out.cell 1
  go_wp2_with fail
  refine (eqLifeTable_any (chgTP f0 xs0 a1).1 AG0 AW0 nW0 cG0 cW0 (chgTP f0 xs0 a1).2.1 _ (by omega) (by have := HRG0.out.len; rwa [intRows_length] at this) HRG0.out.rd HRW0.out.rd).mono ?_
  rintro e w10 ⟨rfl, hb10⟩
  clear q1 q2 q3 q4
  have BK10 := BK9.trans (hb10.mono BK9.size)
  have hz10 : w9.heap.size ≤ w10.heap.size := hb10.size
  replace HA0 := Lib.hid (HA0.out.below' hb10)
  replace HRW0 := Lib.hid (HRW0.out.past hb10)
  replace HYW0 := Lib.hid (HYW0.out.below' hb10)
  replace HYx0 := Lib.hid (HYx0.out.below' hb10)
  replace HRG0 := Lib.hid (HRG0.out.past hb10)
  replace HYG0 := Lib.hid (HYG0.out.below' hb10)
  clear hb10
  have hcHYG0 := Lib.hid (Blk.agg (cs := [.int .i64 (chgTP f0 xs0 a1).1, .slice AG0 nW0 cG0]) HYG0.out 0 [.int .i64 (chgTP f0 xs0 a1).1, .slice AG0 nW0 cG0] rfl)
  go_wp2_with (first | (refine wpList_load_agg rfl 26 _ rfl ⟨w5.heap.size, 0, none⟩ rfl [.int .i64 (chgTP f0 xs0 a1).1, .slice AG0 nW0 cG0] hcHYG0.out _ Try.underlying26 rfl Tab.size ?_))
  refine (markLifeTable_at _ (chgTP f0 xs0 a1).1 AG0 nW0 cG0 1 _ _ _ (by omega) (by omega) HRG0.out (by omega)).mono ?_
  rintro e w11 ⟨rfl, ⟨u11, hu11, ht11⟩, hHM0⟩
  clear hcHYG0
  have hzu11 : w10.heap.size ≤ u11.heap.size := hu11.size
  have BKu11 := BK10.trans (hu11.mono BK10.size)
  replace HA0 := Lib.hid (HA0.out.below' hu11)
  replace HRW0 := Lib.hid (HRW0.out.past hu11)
  replace HYW0 := Lib.hid (HYW0.out.below' hu11)
  replace HYx0 := Lib.hid (HYx0.out.below' hu11)
  replace HRG0 := Lib.hid (HRG0.out.past hu11)
  replace HYG0 := Lib.hid (HYG0.out.below' hu11)
  have BK11 := BKu11.trans (ht11.below BKu11.size (fun g hg => by have := hwG0.out g hg; omega))
  have hz11 : u11.heap.size ≤ w11.heap.size := ht11.size
  replace HA0 := Lib.hid (ht11.blk HA0.out (fun g hg => by have := hwG0.out g hg; omega))
  replace HRW0 := Lib.hid (ht11.res HRW0.out (fun g hg hg' => by have := hwG0.out g hg; have := hwW0.out g hg'; omega))
  replace HYW0 := Lib.hid (ht11.blk HYW0.out (fun g hg => by have := hwG0.out g hg; omega))
  replace HYx0 := Lib.hid (ht11.blk HYx0.out (fun g hg => by have := hwG0.out g hg; omega))
  replace HYG0 := Lib.hid (ht11.blk HYG0.out (fun g hg => by have := hwG0.out g hg; omega))
  clear ht11
  have HM0 := Lib.hid hHM0; clear hHM0
  have hcHYG0 := Lib.hid (Blk.agg (cs := [.int .i64 (chgTP f0 xs0 a1).1, .slice AG0 nW0 cG0]) HYG0.out 0 [.int .i64 (chgTP f0 xs0 a1).1, .slice AG0 nW0 cG0] rfl)
  go_wp2_with (first | (refine wpList_load_agg rfl 26 _ rfl ⟨w5.heap.size, 0, none⟩ rfl [.int .i64 (chgTP f0 xs0 a1).1, .slice AG0 nW0 cG0] hcHYG0.out _ Try.underlying26 rfl Tab.size ?_))
  refine (heldLifeTable_at (chgTP f0 xs0 a1).1 AG0 nW0 cG0 1 _ _ (by omega) (by omega) HM0.out (by omega)).mono ?_
  rintro e w12 ⟨rfl, hb12⟩
  clear hcHYG0
  have BK12 := BK11.trans (hb12.mono BK11.size)
  have hz12 : w11.heap.size ≤ w12.heap.size := hb12.size
  replace HA0 := Lib.hid (HA0.out.below' hb12)
  replace HRW0 := Lib.hid (HRW0.out.past hb12)
  replace HYW0 := Lib.hid (HYW0.out.below' hb12)
  replace HYx0 := Lib.hid (HYx0.out.below' hb12)
  replace HYG0 := Lib.hid (HYG0.out.below' hb12)
  replace HM0 := Lib.hid (HM0.out.past hb12)
  clear hb12
  have hcHA0 := Lib.hid (Blk.agg (cs := [.int .i64 f0, .slice A0 n0 c0]) HA0.out 0 [.int .i64 f0, .slice A0 n0 c0] rfl)
  go_wp2_with (first | (refine wpList_load_agg rfl 24 _ rfl ⟨w.heap.size, 0, none⟩ rfl [.int .i64 f0, .slice A0 n0 c0] hcHA0.out _ Try.underlying24 rfl LawLT.size ?_))
  refine (toLifeTable_any f0 A0 n0 c0 xs0 _ hs0' HT0.out.1 (HLT0.out.past BK12).rd).mono ?_
  rintro e w13 ⟨gh0, rfl, hHRh0, hb13⟩
  clear hcHA0
  have BK13 := BK12.trans (hb13.mono BK12.size)
  have hz13 : w12.heap.size ≤ w13.heap.size := hb13.size
  replace HA0 := Lib.hid (HA0.out.below' hb13)
  replace HRW0 := Lib.hid (HRW0.out.past hb13)
  replace HYW0 := Lib.hid (HYW0.out.below' hb13)
  replace HYx0 := Lib.hid (HYx0.out.below' hb13)
  replace HYG0 := Lib.hid (HYG0.out.below' hb13)
  replace HM0 := Lib.hid (HM0.out.past hb13)
  clear hb13
  have HRh0 := Lib.hid hHRh0; clear hHRh0
  have hwh0 := Lib.hid (fun g (hg : some (⟨gh0, 0, none⟩ : Addr) = some ⟨g, 0, none⟩) => show w12.heap.size ≤ g ∧ g < w13.heap.size by have h9 := HRh0.out.lt hg; simpa using h9)
  go_wp2_with fail
  refine (impl_ChangeTable_any f0 (some ⟨gh0, 0, none⟩) n0 n0 xs0 a1 _ ⟨HT0.out.1, hs0', HRh0.out.rd, HT0.out.2.2.1⟩ (Nat.le_refl _) HT0.out.2.2.2 HF1.out).mono ?_
  rintro e w14 ⟨AH0, nH0, cH0, rfl, hHRH0, hb14⟩
  have BK14 := BK13.trans (hb14.mono BK13.size)
  have hz14 : w13.heap.size ≤ w14.heap.size := hb14.size
  replace HA0 := Lib.hid (HA0.out.below' hb14)
  replace HRW0 := Lib.hid (HRW0.out.past hb14)
  replace HYW0 := Lib.hid (HYW0.out.below' hb14)
  replace HYx0 := Lib.hid (HYx0.out.below' hb14)
  replace HYG0 := Lib.hid (HYG0.out.below' hb14)
  replace HM0 := Lib.hid (HM0.out.past hb14)
  replace HRh0 := Lib.hid (HRh0.out.past hb14)
  clear hb14
  have HRH0 := Lib.hid hHRH0; clear hHRH0
  have hwH0 := Lib.hid (fun g (hg : AH0 = some ⟨g, 0, none⟩) => show w13.heap.size ≤ g ∧ g < w14.heap.size by have h9 := HRH0.out.lt hg; simpa using h9)
  have hmH0 : nH0 ≤ 1048576 := by have h1 := HRH0.out.len; rw [intRows_length] at h1; have := chgT_small f0 xs0 a1; omega
  have hbaH0 : Below w14.heap.size w14 (w14.alloc (.cells #[.int .i64 (chgTP f0 xs0 a1).1, .slice AH0 nH0 cH0] 26)) := (Below.refl _ _).alloc (Nat.le_refl _) _
  replace HA0 := Lib.hid (HA0.out.below' hbaH0)
  replace HRW0 := Lib.hid (HRW0.out.past hbaH0)
  replace HYW0 := Lib.hid (HYW0.out.below' hbaH0)
  replace HYx0 := Lib.hid (HYx0.out.below' hbaH0)
  replace HYG0 := Lib.hid (HYG0.out.below' hbaH0)
  replace HM0 := Lib.hid (HM0.out.past hbaH0)
  replace HRH0 := Lib.hid (HRH0.out.past hbaH0)
  have HYH0 := Lib.hid (Blk.new w14 26 #[.int .i64 (chgTP f0 xs0 a1).1, .slice AH0 nH0 cH0])
  replace BK14 := BK14.trans (hbaH0.mono BK14.size)
  clear hbaH0
  obtain rfl : nW0 = nH0 := by have h1 := HRH0.out.len; have h2 := HRW0.out.len; omega
  have hcHYH0 := Lib.hid (Blk.agg (cs := [.int .i64 (chgTP f0 xs0 a1).1, .slice AH0 nW0 cH0]) HYH0.out 0 [.int .i64 (chgTP f0 xs0 a1).1, .slice AH0 nW0 cH0] rfl)
  have hcHYW0 := Lib.hid (Blk.agg (cs := [.int .i64 (chgTP f0 xs0 a1).1, .slice AW0 nW0 cW0]) HYW0.out 0 [.int .i64 (chgTP f0 xs0 a1).1, .slice AW0 nW0 cW0] rfl)
  go_wp2_with (first | (refine wpList_load_agg rfl 26 _ rfl ⟨w14.heap.size, 0, none⟩ rfl [.int .i64 (chgTP f0 xs0 a1).1, .slice AH0 nW0 cH0] hcHYH0.out _ Try.underlying26 rfl Tab.size ?_) | (refine wpList_load_agg rfl 26 _ rfl ⟨w3.heap.size, 0, none⟩ rfl [.int .i64 (chgTP f0 xs0 a1).1, .slice AW0 nW0 cW0] hcHYW0.out _ Try.underlying26 rfl Tab.size ?_))
  refine (eqLifeTable_any (chgTP f0 xs0 a1).1 AH0 AW0 nW0 cH0 cW0 (chgTP f0 xs0 a1).2.1 _ (by omega) (by have := HRH0.out.len; rwa [intRows_length] at this) HRH0.out.rd HRW0.out.rd).mono ?_
  rintro e w15 ⟨rfl, hb15⟩
  clear hcHYH0
  clear hcHYW0
  have BK15 := BK14.trans (hb15.mono BK14.size)
  have hz15 : w14.heap.size + 1 ≤ w15.heap.size := by have := hb15.size; simpa using this
  replace HA0 := Lib.hid (HA0.out.below' hb15)
  replace HRW0 := Lib.hid (HRW0.out.past hb15)
  replace HYW0 := Lib.hid (HYW0.out.below' hb15)
  replace HYx0 := Lib.hid (HYx0.out.below' hb15)
  replace HYG0 := Lib.hid (HYG0.out.below' hb15)
  replace HM0 := Lib.hid (HM0.out.past hb15)
  replace HRH0 := Lib.hid (HRH0.out.past hb15)
  replace HYH0 := Lib.hid (HYH0.out.below' hb15)
  clear hb15
  have hcHYG0 := Lib.hid (Blk.agg (cs := [.int .i64 (chgTP f0 xs0 a1).1, .slice AG0 nW0 cG0]) HYG0.out 0 [.int .i64 (chgTP f0 xs0 a1).1, .slice AG0 nW0 cG0] rfl)
  go_wp2_with (first | (refine wpList_load_agg rfl 26 _ rfl ⟨w5.heap.size, 0, none⟩ rfl [.int .i64 (chgTP f0 xs0 a1).1, .slice AG0 nW0 cG0] hcHYG0.out _ Try.underlying26 rfl Tab.size ?_))
  refine (heldLifeTable_at (chgTP f0 xs0 a1).1 AG0 nW0 cG0 1 _ _ (by omega) (by omega) HM0.out (by omega)).mono ?_
  rintro e w16 ⟨rfl, hb16⟩
  clear hcHYG0
  have BK16 := BK15.trans (hb16.mono BK15.size)
  have hz16 : w15.heap.size ≤ w16.heap.size := hb16.size
  replace HA0 := Lib.hid (HA0.out.below' hb16)
  replace HRW0 := Lib.hid (HRW0.out.past hb16)
  replace HYW0 := Lib.hid (HYW0.out.below' hb16)
  replace HYx0 := Lib.hid (HYx0.out.below' hb16)
  replace HYG0 := Lib.hid (HYG0.out.below' hb16)
  replace HM0 := Lib.hid (HM0.out.past hb16)
  replace HRH0 := Lib.hid (HRH0.out.past hb16)
  replace HYH0 := Lib.hid (HYH0.out.below' hb16)
  clear hb16
  go_wp2
  go_ret
  exact ⟨rfl, BK16⟩

set_option maxRecDepth 100000 in
theorem lifted (os : Os) (started : os.Started) (H : Type) (enc : TypeId × Value → H) :
    ReturnsInHanded {} Try.checked os 3 .any (Rows.fnExactChangeTableSpec.pre6 enc Try.prog Try.f3 Rows.fnExactChangeTableRow.domain false) (Rows.fnExactChangeTableSpec.post enc Try.prog Try.f3 false true false false) := by
  refine law_lifted os started H enc 4 (by kernel_rfl) Try.func3
    (ChangeSpec.witness6 (enc := enc) (C := Try.checked) false ⟨#[], #[.agg #[.int .i64 0, .slice none 0 0], .int .i64 0], []⟩ 8 (by kernel_rfl) (by kernel_rfl) (by kernel_rfl) (by kernel_rfl)) rfl rfl Try.underlying4
    (by rw [Try.params3]; simp only [List.forall_mem_cons]; exact ⟨⟨by kernel_rfl, of_decide_eq_true (by kernel_rfl)⟩, ⟨by kernel_rfl, of_decide_eq_true (by kernel_rfl)⟩, by simp⟩) (fun ds hl => by
      match ds, hl with
      | [d0, d1], _ => rfl) ?_
  intro W base args ds p hval hA
  rw [Try.params3] at hA hval
  obtain ⟨v0, vs0, d0, ds0, p0, q0, hargs, rfl, rfl, h0, rr0⟩ := trodAll_cons hA
  obtain ⟨v1, vs1, d1, ds1, p1, q1, rfl, rfl, rfl, h1, rr1⟩ := trodAll_cons rr0
  obtain ⟨rfl, rfl, rfl⟩ := trodAll_nil rr1
  obtain rfl : args = #[v0, v1] := by cases args; simp_all
  obtain ⟨f0, A0, n0, c0, xs0, rfl, hn0, hl0, hX0, hf0, i0⟩ := open_ltable (hval 0 24 v0 rfl rfl) h0
  obtain ⟨a1, rfl, rfl, rfl, wf1⟩ := open_int Try.underlying2 (hval 1 2 v1 rfl rfl) h1
  exact walk f0 A0 n0 c0 xs0 a1 W hn0 hl0 hX0 hf0 i0 (in64_of_wf wf1)
theorem proved : Rows.FnExactChangeTableSaid :=
  OpenClaim.holds_of_wide 3 Try.f3 rfl rfl rfl rfl rfl rfl rfl ⟨rfl, rfl, rfl, rfl, rfl⟩ rfl rfl rfl rfl rfl (by kernel_rfl) Try.func3 (by kernel_rfl)
    (of_decide_eq_true (by kernel_rfl)) (by unfold Func.isWrapper; first | (rw [if_pos (by decide +kernel)]; kernel_rfl) | (rw [if_neg (by decide +kernel)]; exact ⟨rfl, rfl⟩))
    (fun os started H enc _ => lifted os started H enc)
end fnExactChangeTable
end Go.Proofs.Ytkpppajihgnkcaa
