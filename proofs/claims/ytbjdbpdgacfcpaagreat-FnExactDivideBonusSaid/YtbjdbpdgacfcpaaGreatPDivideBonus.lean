/- The law on DivideBonus: the program's and the reference's results are equal, and the arguments are left as they were. No condition. -/
import Derived.Test.YtbjdbpdgacfcpaaGreatK1
import Derived.Test.YtbjdbpdgacfcpaaGreatK2
import Derived.Test.YtbjdbpdgacfcpaaGreatK6
import Derived.Test.YtbjdbpdgacfcpaaGreatK22
namespace Go.Proofs.YtbjdbpdgacfcpaaGreat
open Go.ChangeShapes Go.WideShapes Go.ChangeAt Go.RowKit Go.Deep
namespace fnExactDivideBonus
set_option maxRecDepth 100000 in
set_option maxHeartbeats 4000000 in
theorem walk (b0 : Bas) (A0 : Option Addr) (n0 c0 : Nat) (A1 : Option Addr) (n1 c1 : Nat) (xs1 : List Holding) (a2 : Int) (a3 : Int) (w : World) (hn0 : n0 ≤ maxLen) (hl0 : b0.lives.length = n0) (hX0 : Rd w w.heap.size A0 1 (intRows b0.lives)) (hf0 : ∀ x ∈ b0.lives, In64 x) (i0 : In64 b0.first) (j0 : In64 b0.rate) (hn1 : n1 ≤ maxLen) (hl1 : xs1.length = n1) (hX1 : Rd w w.heap.size A1 7 (holdingRows (xs1))) (f1 : ∀ x ∈ xs1, x.fits) (i2 : In64 a2) (i3 : In64 a3) :
    Calls Tryz.prog 6 #[.agg #[.int .i64 b0.first, .slice A0 n0 c0, .int .i64 b0.rate], .slice A1 n1 c1, .int .i64 a2, .int .i64 a3] w fun e w' => e = .returned (.bool true) ∧ Below w.heap.size w w' := by
  unfold maxLen at *
  have BK0 : Below w.heap.size w (w.alloc (.cells #[.int .i64 b0.first, .slice A0 n0 c0, .int .i64 b0.rate] 71)) := ((Below.refl _ w).alloc (by simp <;> omega) _)
  have HA0 := Lib.hid (Blk.new w 71 #[.int .i64 b0.first, .slice A0 n0 c0, .int .i64 b0.rate])
  by_cases hs0 : (n0 : Int) ≤ 1048576
  rotate_left
  · clear hX0 hf0 hl0 i0 j0 hX1 f1 hl1 i2 i3
    go_enter Tryz.func6, Tryz.ntmps6
    have hc0 := Lib.hid (Blk.agg (cs := [.int .i64 b0.first, .slice A0 n0 c0, .int .i64 b0.rate]) HA0.out 0 [.int .i64 b0.first, .slice A0 n0 c0, .int .i64 b0.rate] rfl)
    go_wp2_with (refine wpList_load_agg rfl 71 _ rfl ⟨w.heap.size, 0, none⟩ rfl [.int .i64 b0.first, .slice A0 n0 c0, .int .i64 b0.rate] hc0.out _ Tryz.underlying71 rfl LawBas.size ?_)
    refine (szBasis_no _ _ _ _ _ _ _ (by omega) (by omega) (by omega) (by omega)).mono ?_
    rintro e v1 ⟨rfl, hg1⟩
    have BKg1 := BK0.trans (hg1.mono BK0.size)
    go_wp2
    go_ret
    exact ⟨rfl, BKg1⟩
  by_cases hs1 : (n1 : Int) ≤ 1048576 - (n0 : Int)
  rotate_left
  · clear hX0 hf0 hl0 i0 j0 hX1 f1 hl1 i2 i3
    go_enter Tryz.func6, Tryz.ntmps6
    have hc0 := Lib.hid (Blk.agg (cs := [.int .i64 b0.first, .slice A0 n0 c0, .int .i64 b0.rate]) HA0.out 0 [.int .i64 b0.first, .slice A0 n0 c0, .int .i64 b0.rate] rfl)
    go_wp2_with (refine wpList_load_agg rfl 71 _ rfl ⟨w.heap.size, 0, none⟩ rfl [.int .i64 b0.first, .slice A0 n0 c0, .int .i64 b0.rate] hc0.out _ Tryz.underlying71 rfl LawBas.size ?_)
    refine (szBasis_yes _ _ _ _ _ _ _ (by omega) (by omega)).mono ?_
    rintro e v1 ⟨rfl, hg1⟩
    have BKg1 := BK0.trans (hg1.mono BK0.size)
    go_wp2_with fail
    refine (szHoldingS_no _ _ _ _ _ (by omega) (by omega) (by omega) (by omega)).mono ?_
    rintro e w' ⟨rfl, rfl⟩
    go_wp2
    go_ret
    exact ⟨rfl, BKg1⟩
  have hs0' : n0 ≤ 1048576 := by omega
  have HLT0 := Lib.hid (show LiesT w A0 n0 b0.lives from ⟨hl0, hs0', hX0, hf0⟩)
  have HT0 := Lib.hid (show b0.lives.length = n0 ∧ n0 ≤ 1048576 ∧ (∀ x ∈ b0.lives, In64 x) ∧ In64 b0.first ∧ In64 b0.rate from ⟨hl0, hs0', hf0, i0, j0⟩)
  clear hl0 hX0 hf0 i0 j0
  have hs1' : n1 ≤ 1048576 := by omega
  have HX1 := Lib.hid hX1; clear hX1
  have HL1 := Lib.hid hl1; clear hl1
  have HF1 := Lib.hid f1; clear f1
  have HF2 := Lib.hid i2; clear i2
  have HF3 := Lib.hid i3; clear i3
  go_enter Tryz.func6, Tryz.ntmps6
  have hcHA0 := Lib.hid (Blk.agg (cs := [.int .i64 b0.first, .slice A0 n0 c0, .int .i64 b0.rate]) HA0.out 0 [.int .i64 b0.first, .slice A0 n0 c0, .int .i64 b0.rate] rfl)
  go_wp2_with (first | (refine wpList_load_agg rfl 71 _ rfl ⟨w.heap.size, 0, none⟩ rfl [.int .i64 b0.first, .slice A0 n0 c0, .int .i64 b0.rate] hcHA0.out _ Tryz.underlying71 rfl LawBas.size ?_))
  refine (szBasis_yes _ _ _ _ _ _ _ (by omega) (by omega)).mono ?_
  rintro e w1 ⟨rfl, hb1⟩
  clear hcHA0
  have BK1 := BK0.trans (hb1.mono BK0.size)
  have hz1 : w.heap.size + 1 ≤ w1.heap.size := by have := hb1.size; simpa using this
  replace HA0 := Lib.hid (HA0.out.below' hb1)
  clear hb1
  go_wp2_with fail
  refine (szHoldingS_yes _ _ _ _ _ (by omega) (by omega)).mono ?_
  rintro e w' ⟨rfl, rfl⟩
  have hcHA0 := Lib.hid (Blk.agg (cs := [.int .i64 b0.first, .slice A0 n0 c0, .int .i64 b0.rate]) HA0.out 0 [.int .i64 b0.first, .slice A0 n0 c0, .int .i64 b0.rate] rfl)
  go_wp2_with (first | (refine wpList_load_agg rfl 71 _ rfl ⟨w.heap.size, 0, none⟩ rfl [.int .i64 b0.first, .slice A0 n0 c0, .int .i64 b0.rate] hcHA0.out _ Tryz.underlying71 rfl LawBas.size ?_))
  refine (toBasis_any b0 A0 n0 c0 _ (HLT0.out.past BK1)).mono ?_
  rintro e w2 ⟨gw0, rfl, hHRw0, hb2⟩
  clear hcHA0
  have BK2 := BK1.trans (hb2.mono BK1.size)
  have hz2 : w1.heap.size ≤ w2.heap.size := hb2.size
  replace HA0 := Lib.hid (HA0.out.below' hb2)
  clear hb2
  have HRw0 := Lib.hid hHRw0; clear hHRw0
  have hww0 := Lib.hid (fun g (hg : some (⟨gw0, 0, none⟩ : Addr) = some ⟨g, 0, none⟩) => show w1.heap.size ≤ g ∧ g < w2.heap.size by have h9 := HRw0.out.lt hg; simpa using h9)
  go_wp2_with fail
  refine (toHoldingS_any A1 n1 c1 xs1 _ hs1' HL1.out ((HX1.out.below BK2).more BK2.size)).mono ?_
  rintro e w3 ⟨gw1, rfl, hHRw1, hb3⟩
  have BK3 := BK2.trans (hb3.mono BK2.size)
  have hz3 : w2.heap.size ≤ w3.heap.size := hb3.size
  replace HA0 := Lib.hid (HA0.out.below' hb3)
  replace HRw0 := Lib.hid (HRw0.out.past hb3)
  clear hb3
  have HRw1 := Lib.hid hHRw1; clear hHRw1
  have hww1 := Lib.hid (fun g (hg : some (⟨gw1, 0, none⟩ : Addr) = some ⟨g, 0, none⟩) => show w2.heap.size ≤ g ∧ g < w3.heap.size by have h9 := HRw1.out.lt hg; simpa using h9)
  go_wp2_with fail
  refine (spec_DivideBonus_any b0 (some ⟨gw0, 0, none⟩) n0 n0 (some ⟨gw1, 0, none⟩) n1 n1 xs1 a2 a3 _ (basT_of HRw0.out HT0.out) HL1.out hs1' HRw1.out.rd HF1.out HF2.out HF3.out).mono ?_
  rintro e w4 ⟨AW0, nW0, cW0, rfl, hHRW0, hb4⟩
  have BK4 := BK3.trans (hb4.mono BK3.size)
  have hz4 : w3.heap.size ≤ w4.heap.size := hb4.size
  replace HA0 := Lib.hid (HA0.out.below' hb4)
  replace HRw0 := Lib.hid (HRw0.out.past hb4)
  replace HRw1 := Lib.hid (HRw1.out.past hb4)
  clear hb4
  have HRW0 := Lib.hid hHRW0; clear hHRW0
  have hwW0 := Lib.hid (fun g (hg : AW0 = some ⟨g, 0, none⟩) => show w3.heap.size ≤ g ∧ g < w4.heap.size by have h9 := HRW0.out.lt hg; simpa using h9)
  have hmW0 : nW0 ≤ 1048576 := by have h1 := HRW0.out.len; rw [intRows_length] at h1; have := dv_small b0 xs1 a2 a3; omega
  have hcHA0 := Lib.hid (Blk.agg (cs := [.int .i64 b0.first, .slice A0 n0 c0, .int .i64 b0.rate]) HA0.out 0 [.int .i64 b0.first, .slice A0 n0 c0, .int .i64 b0.rate] rfl)
  go_wp2_with (first | (refine wpList_load_agg rfl 71 _ rfl ⟨w.heap.size, 0, none⟩ rfl [.int .i64 b0.first, .slice A0 n0 c0, .int .i64 b0.rate] hcHA0.out _ Tryz.underlying71 rfl LawBas.size ?_))
  refine (toBasis_any b0 A0 n0 c0 _ (HLT0.out.past BK4)).mono ?_
  rintro e w5 ⟨gx0, rfl, hHRx0, hb5⟩
  clear hcHA0
  have BK5 := BK4.trans (hb5.mono BK4.size)
  have hz5 : w4.heap.size ≤ w5.heap.size := hb5.size
  replace HA0 := Lib.hid (HA0.out.below' hb5)
  replace HRW0 := Lib.hid (HRW0.out.past hb5)
  clear hb5
  have HRx0 := Lib.hid hHRx0; clear hHRx0
  have hwx0 := Lib.hid (fun g (hg : some (⟨gx0, 0, none⟩ : Addr) = some ⟨g, 0, none⟩) => show w4.heap.size ≤ g ∧ g < w5.heap.size by have h9 := HRx0.out.lt hg; simpa using h9)
  have hbax0 : Below w5.heap.size w5 (w5.alloc (.cells #[.int .i64 b0.first, .slice (some ⟨gx0, 0, none⟩) n0 n0, .int .i64 b0.rate] 28)) := (Below.refl _ _).alloc (Nat.le_refl _) _
  replace HA0 := Lib.hid (HA0.out.below' hbax0)
  replace HRW0 := Lib.hid (HRW0.out.past hbax0)
  replace HRx0 := Lib.hid (HRx0.out.past hbax0)
  have HYx0 := Lib.hid (Blk.new w5 28 #[.int .i64 b0.first, .slice (some ⟨gx0, 0, none⟩) n0 n0, .int .i64 b0.rate])
  replace BK5 := BK5.trans (hbax0.mono BK5.size)
  clear hbax0
  go_wp2_with fail
  refine (toHoldingS_any A1 n1 c1 xs1 _ hs1' HL1.out ((HX1.out.below BK5).more BK5.size)).mono ?_
  rintro e w6 ⟨gx1, rfl, hHRx1, hb6⟩
  have BK6 := BK5.trans (hb6.mono BK5.size)
  have hz6 : w5.heap.size + 1 ≤ w6.heap.size := by have := hb6.size; simpa using this
  replace HA0 := Lib.hid (HA0.out.below' hb6)
  replace HRW0 := Lib.hid (HRW0.out.past hb6)
  replace HRx0 := Lib.hid (HRx0.out.past hb6)
  replace HYx0 := Lib.hid (HYx0.out.below' hb6)
  clear hb6
  have HRx1 := Lib.hid hHRx1; clear hHRx1
  have hwx1 := Lib.hid (fun g (hg : some (⟨gx1, 0, none⟩ : Addr) = some ⟨g, 0, none⟩) => show w5.heap.size + 1 ≤ g ∧ g < w6.heap.size by have h9 := HRx1.out.lt hg; simpa using h9)
  have hcHYx0 := Lib.hid (Blk.agg (cs := [.int .i64 b0.first, .slice (some ⟨gx0, 0, none⟩) n0 n0, .int .i64 b0.rate]) HYx0.out 0 [.int .i64 b0.first, .slice (some ⟨gx0, 0, none⟩) n0 n0, .int .i64 b0.rate] rfl)
  go_wp2_with (first | (refine wpList_load_agg rfl 28 _ rfl ⟨w5.heap.size, 0, none⟩ rfl [.int .i64 b0.first, .slice (some ⟨gx0, 0, none⟩) n0 n0, .int .i64 b0.rate] hcHYx0.out _ Tryz.underlying28 rfl Bas.size ?_))
  refine (impl_DivideBonus_any b0 (some ⟨gx0, 0, none⟩) n0 n0 (some ⟨gx1, 0, none⟩) n1 n1 xs1 a2 a3 _ (basT_of HRx0.out HT0.out) HL1.out hs1' HRx1.out.rd HF1.out HF2.out HF3.out).mono ?_
  rintro e w7 ⟨AG0, nG0, cG0, rfl, hHRG0, hb7⟩
  clear hcHYx0
  have BK7 := BK6.trans (hb7.mono BK6.size)
  have hz7 : w6.heap.size ≤ w7.heap.size := hb7.size
  replace HA0 := Lib.hid (HA0.out.below' hb7)
  replace HRW0 := Lib.hid (HRW0.out.past hb7)
  replace HRx0 := Lib.hid (HRx0.out.past hb7)
  replace HYx0 := Lib.hid (HYx0.out.below' hb7)
  replace HRx1 := Lib.hid (HRx1.out.past hb7)
  clear hb7
  have HRG0 := Lib.hid hHRG0; clear hHRG0
  have hwG0 := Lib.hid (fun g (hg : AG0 = some ⟨g, 0, none⟩) => show w6.heap.size ≤ g ∧ g < w7.heap.size by have h9 := HRG0.out.lt hg; simpa using h9)
  have hmG0 : nG0 ≤ 1048576 := by have h1 := HRG0.out.len; rw [intRows_length] at h1; have := dv_small b0 xs1 a2 a3; omega
  obtain rfl : nW0 = nG0 := by have h1 := HRG0.out.len; have h2 := HRW0.out.len; omega
  go_wp2_with fail
  refine (eqInt64S_any AG0 AW0 nW0 cG0 cW0 ((dvP b0 xs1 a2 a3).1) _ (by omega) (by have := HRG0.out.len; rwa [intRows_length] at this) HRG0.out.rd HRW0.out.rd).mono ?_
  rintro e w8 ⟨rfl, hb8⟩
  have BK8 := BK7.trans (hb8.mono BK7.size)
  have hz8 : w7.heap.size ≤ w8.heap.size := hb8.size
  replace HA0 := Lib.hid (HA0.out.below' hb8)
  replace HRW0 := Lib.hid (HRW0.out.past hb8)
  replace HRx0 := Lib.hid (HRx0.out.past hb8)
  replace HYx0 := Lib.hid (HYx0.out.below' hb8)
  replace HRx1 := Lib.hid (HRx1.out.past hb8)
  replace HRG0 := Lib.hid (HRG0.out.past hb8)
  clear hb8
  have HS := Lib.hid (show ∀ w', Below w8.heap.size w8 w' → Below w8.heap.size w8 w' ∧ w'.cell? ⟨w5.heap.size, 0, none⟩ = some (.int .i64 b0.first) ∧ w'.cell? ⟨w5.heap.size, 1, none⟩ = some (.slice (some ⟨gx0, 0, none⟩) n0 n0) ∧ w'.cell? ⟨w5.heap.size, 2, none⟩ = some (.int .i64 b0.rate) ∧ w'.cell? ⟨w.heap.size, 0, none⟩ = some (.int .i64 b0.first) ∧ w'.cell? ⟨w.heap.size, 1, none⟩ = some (.slice A0 n0 c0) ∧ w'.cell? ⟨w.heap.size, 2, none⟩ = some (.int .i64 b0.rate) from fun w' q => by
    have hx0 := HYx0.out.below' q
    have hx1 := HA0.out.below' q
    exact ⟨q, (hx0.cell 0), (hx0.cell 1), (hx0.cell 2), (hx1.cell 0), (hx1.cell 1), (hx1.cell 2)⟩)
  have BKr := BK8
  go_wp2
  go_region_held3 (fun w' => Below w8.heap.size w8 w' ∧ w'.cell? ⟨w5.heap.size, 0, none⟩ = some (.int .i64 b0.first) ∧ w'.cell? ⟨w5.heap.size, 1, none⟩ = some (.slice (some ⟨gx0, 0, none⟩) n0 n0) ∧ w'.cell? ⟨w5.heap.size, 2, none⟩ = some (.int .i64 b0.rate) ∧ w'.cell? ⟨w.heap.size, 0, none⟩ = some (.int .i64 b0.first) ∧ w'.cell? ⟨w.heap.size, 1, none⟩ = some (.slice A0 n0 c0) ∧ w'.cell? ⟨w.heap.size, 2, none⟩ = some (.int .i64 b0.rate)) (first | exact HS.out _ (Below.drew (Below.refl _ _)) | exact HS.out _ hcc10 | exact HS.out _ hcc9 | exact HS.out _ (Below.alloc hcc10 (by first | exact hcc10.size | exact Nat.le_trans (by simp) hcc10.size) _) ) (first | (go_at_call 51; rename Below w8.heap.size w8 _ ∧ _ => hH; have hc0 := hH.1; refine (toBasis_any b0 A0 n0 c0 _ (HLT0.out.past (BKr.trans (hc0.mono BKr.size)))).mono ?_; rintro e w9 ⟨gy0, rfl, hHRy0, hb9⟩; have hcc9 := hc0.trans (hb9.mono hc0.size); have BK9 := BKr.trans (hcc9.mono BKr.size); have hz9 : w8.heap.size ≤ w9.heap.size := hcc9.size; have HRy0 := Lib.hid hHRy0; clear hHRy0; have hwy0 := Lib.hid (fun g (hg : some (⟨gy0, 0, none⟩ : Addr) = some ⟨g, 0, none⟩) => HRy0.out.lt hg)) | (go_at_call 55; refine (eqBasis_any b0 (some ⟨gx0, 0, none⟩) (some ⟨gy0, 0, none⟩) n0 n0 n0 _ (by omega) (basT_of (HRx0.out.past hcc9) HT0.out) (basT_of HRy0.out HT0.out)).mono ?_; rintro e w10 ⟨rfl, hb10⟩; have hcc10 := hcc9.trans (hb10.mono hcc9.size); have BK10 := BKr.trans (hcc10.mono BKr.size); have hz10 : w9.heap.size ≤ w10.heap.size := hb10.size; have HRy0' := Lib.hid (HRy0.out.past hb10); clear HRy0; have HRy0 := HRy0'; clear HRy0'))
  all_goals clear HS
  replace HA0 := Lib.hid (HA0.out.below' hcc10)
  replace HRW0 := Lib.hid (HRW0.out.past hcc10)
  replace HRx0 := Lib.hid (HRx0.out.past hcc10)
  replace HYx0 := Lib.hid (HYx0.out.below' hcc10)
  replace HRx1 := Lib.hid (HRx1.out.past hcc10)
  replace HRG0 := Lib.hid (HRG0.out.past hcc10)
  go_wp2_with fail
  refine (toHoldingS_any A1 n1 c1 xs1 _ hs1' HL1.out ((HX1.out.below BK10).more BK10.size)).mono ?_
  rintro e w11 ⟨gy1, rfl, hHRy1, hb11⟩
  have BK11 := BK10.trans (hb11.mono BK10.size)
  have hz11 : w10.heap.size ≤ w11.heap.size := hb11.size
  replace HA0 := Lib.hid (HA0.out.below' hb11)
  replace HRW0 := Lib.hid (HRW0.out.past hb11)
  replace HRx0 := Lib.hid (HRx0.out.past hb11)
  replace HYx0 := Lib.hid (HYx0.out.below' hb11)
  replace HRx1 := Lib.hid (HRx1.out.past hb11)
  replace HRG0 := Lib.hid (HRG0.out.past hb11)
  clear hb11
  have HRy1 := Lib.hid hHRy1; clear hHRy1
  have hwy1 := Lib.hid (fun g (hg : some (⟨gy1, 0, none⟩ : Addr) = some ⟨g, 0, none⟩) => show w10.heap.size ≤ g ∧ g < w11.heap.size by have h9 := HRy1.out.lt hg; simpa using h9)
  go_wp2_with fail
  refine (eqHoldingS_any (some ⟨gx1, 0, none⟩) (some ⟨gy1, 0, none⟩) n1 n1 n1 xs1 _ (by omega) HL1.out HRx1.out.rd HRy1.out.rd).mono ?_
  rintro e w12 ⟨rfl, hb12⟩
  have BK12 := BK11.trans (hb12.mono BK11.size)
  have hz12 : w11.heap.size ≤ w12.heap.size := hb12.size
  replace HA0 := Lib.hid (HA0.out.below' hb12)
  replace HRW0 := Lib.hid (HRW0.out.past hb12)
  replace HRx0 := Lib.hid (HRx0.out.past hb12)
  replace HYx0 := Lib.hid (HYx0.out.below' hb12)
  replace HRx1 := Lib.hid (HRx1.out.past hb12)
  replace HRG0 := Lib.hid (HRG0.out.past hb12)
  replace HRy1 := Lib.hid (HRy1.out.past hb12)
  clear hb12
  have hcHYx0 := Lib.hid (Blk.agg (cs := [.int .i64 b0.first, .slice (some ⟨gx0, 0, none⟩) n0 n0, .int .i64 b0.rate]) HYx0.out 0 [.int .i64 b0.first, .slice (some ⟨gx0, 0, none⟩) n0 n0, .int .i64 b0.rate] rfl)
  go_wp2_with (first | (refine wpList_load_agg rfl 28 _ rfl ⟨w5.heap.size, 0, none⟩ rfl [.int .i64 b0.first, .slice (some ⟨gx0, 0, none⟩) n0 n0, .int .i64 b0.rate] hcHYx0.out _ Tryz.underlying28 rfl Bas.size ?_))
  refine (markBasis_at _ b0.first b0.rate (some ⟨gx0, 0, none⟩) n0 n0 (1) _ _ _ hs0' (by omega) HRx0.out (by omega)).mono ?_
  rintro e w13 ⟨rfl, ⟨u13, hu13, ht13⟩, _⟩
  clear hcHYx0
  have hzu13 : w12.heap.size ≤ u13.heap.size := hu13.size
  have BKu13 := BK12.trans (hu13.mono BK12.size)
  replace HA0 := Lib.hid (HA0.out.below' hu13)
  replace HRW0 := Lib.hid (HRW0.out.past hu13)
  replace HRx0 := Lib.hid (HRx0.out.past hu13)
  replace HYx0 := Lib.hid (HYx0.out.below' hu13)
  replace HRx1 := Lib.hid (HRx1.out.past hu13)
  replace HRG0 := Lib.hid (HRG0.out.past hu13)
  have BK13 := BKu13.trans (ht13.below BKu13.size (fun g hg => by have := hwx0.out g hg; omega))
  have hz13 : u13.heap.size ≤ w13.heap.size := ht13.size
  replace HA0 := Lib.hid (ht13.blk HA0.out (fun g hg => by have := hwx0.out g hg; omega))
  replace HRW0 := Lib.hid (ht13.res HRW0.out (fun g hg hg' => by have := hwx0.out g hg; have := hwW0.out g hg'; omega))
  replace HYx0 := Lib.hid (ht13.blk HYx0.out (fun g hg => by have := hwx0.out g hg; omega))
  replace HRx1 := Lib.hid (ht13.res HRx1.out (fun g hg hg' => by have := hwx0.out g hg; have := hwx1.out g hg'; omega))
  replace HRG0 := Lib.hid (ht13.res HRG0.out (fun g hg hg' => by have := hwx0.out g hg; have := hwG0.out g hg'; omega))
  clear ht13
  go_wp2_with fail
  refine (markHoldingS_at _ (some ⟨gx1, 0, none⟩) n1 n1 (1 + n0 * 1) _ _ _ hs1' (by omega) HRx1.out (by omega)).mono ?_
  rintro e w14 ⟨rfl, ht14, _⟩
  have BK14 := BK13.trans (ht14.below BK13.size (fun g hg => by have := hwx1.out g hg; omega))
  have hz14 : w13.heap.size ≤ w14.heap.size := ht14.size
  replace HA0 := Lib.hid (ht14.blk HA0.out (fun g hg => by have := hwx1.out g hg; omega))
  replace HRW0 := Lib.hid (ht14.res HRW0.out (fun g hg hg' => by have := hwx1.out g hg; have := hwW0.out g hg'; omega))
  replace HYx0 := Lib.hid (ht14.blk HYx0.out (fun g hg => by have := hwx1.out g hg; omega))
  replace HRG0 := Lib.hid (ht14.res HRG0.out (fun g hg hg' => by have := hwx1.out g hg; have := hwG0.out g hg'; omega))
  clear ht14
  go_wp2_with fail
  refine (eqInt64S_any AG0 AW0 nW0 cG0 cW0 ((dvP b0 xs1 a2 a3).1) _ (by omega) (by have := HRG0.out.len; rwa [intRows_length] at this) HRG0.out.rd HRW0.out.rd).mono ?_
  rintro e w15 ⟨rfl, hb15⟩
  have BK15 := BK14.trans (hb15.mono BK14.size)
  have hz15 : w14.heap.size ≤ w15.heap.size := hb15.size
  replace HA0 := Lib.hid (HA0.out.below' hb15)
  replace HRW0 := Lib.hid (HRW0.out.past hb15)
  replace HYx0 := Lib.hid (HYx0.out.below' hb15)
  replace HRG0 := Lib.hid (HRG0.out.past hb15)
  clear hb15
  go_wp2_with fail
  refine (markInt64S_at _ AG0 nW0 cG0 1 _ _ _ (by omega) (by omega) HRG0.out (by omega)).mono ?_
  rintro e w16 ⟨rfl, ht16, hHM0⟩
  have BK16 := BK15.trans (ht16.below BK15.size (fun g hg => by have := hwG0.out g hg; omega))
  have hz16 : w15.heap.size ≤ w16.heap.size := ht16.size
  replace HA0 := Lib.hid (ht16.blk HA0.out (fun g hg => by have := hwG0.out g hg; omega))
  replace HRW0 := Lib.hid (ht16.res HRW0.out (fun g hg hg' => by have := hwG0.out g hg; have := hwW0.out g hg'; omega))
  replace HYx0 := Lib.hid (ht16.blk HYx0.out (fun g hg => by have := hwG0.out g hg; omega))
  clear ht16
  have HM0 := Lib.hid hHM0; clear hHM0
  go_wp2_with fail
  refine (heldInt64S_at AG0 nW0 cG0 1 _ _ (by omega) (by omega) HM0.out (by omega)).mono ?_
  rintro e w' ⟨rfl, rfl⟩
  have hcHA0 := Lib.hid (Blk.agg (cs := [.int .i64 b0.first, .slice A0 n0 c0, .int .i64 b0.rate]) HA0.out 0 [.int .i64 b0.first, .slice A0 n0 c0, .int .i64 b0.rate] rfl)
  go_wp2_with (first | (refine wpList_load_agg rfl 71 _ rfl ⟨w.heap.size, 0, none⟩ rfl [.int .i64 b0.first, .slice A0 n0 c0, .int .i64 b0.rate] hcHA0.out _ Tryz.underlying71 rfl LawBas.size ?_))
  refine (toBasis_any b0 A0 n0 c0 _ (HLT0.out.past BK16)).mono ?_
  rintro e w17 ⟨gh0, rfl, hHRh0, hb17⟩
  clear hcHA0
  have BK17 := BK16.trans (hb17.mono BK16.size)
  have hz17 : w16.heap.size ≤ w17.heap.size := hb17.size
  replace HA0 := Lib.hid (HA0.out.below' hb17)
  replace HRW0 := Lib.hid (HRW0.out.past hb17)
  replace HYx0 := Lib.hid (HYx0.out.below' hb17)
  replace HM0 := Lib.hid (HM0.out.past hb17)
  clear hb17
  have HRh0 := Lib.hid hHRh0; clear hHRh0
  have hwh0 := Lib.hid (fun g (hg : some (⟨gh0, 0, none⟩ : Addr) = some ⟨g, 0, none⟩) => show w16.heap.size ≤ g ∧ g < w17.heap.size by have h9 := HRh0.out.lt hg; simpa using h9)
  go_wp2_with fail
  refine (toHoldingS_any A1 n1 c1 xs1 _ hs1' HL1.out ((HX1.out.below BK17).more BK17.size)).mono ?_
  rintro e w18 ⟨gh1, rfl, hHRh1, hb18⟩
  have BK18 := BK17.trans (hb18.mono BK17.size)
  have hz18 : w17.heap.size ≤ w18.heap.size := hb18.size
  replace HA0 := Lib.hid (HA0.out.below' hb18)
  replace HRW0 := Lib.hid (HRW0.out.past hb18)
  replace HYx0 := Lib.hid (HYx0.out.below' hb18)
  replace HM0 := Lib.hid (HM0.out.past hb18)
  replace HRh0 := Lib.hid (HRh0.out.past hb18)
  clear hb18
  have HRh1 := Lib.hid hHRh1; clear hHRh1
  have hwh1 := Lib.hid (fun g (hg : some (⟨gh1, 0, none⟩ : Addr) = some ⟨g, 0, none⟩) => show w17.heap.size ≤ g ∧ g < w18.heap.size by have h9 := HRh1.out.lt hg; simpa using h9)
  go_wp2_with fail
  refine (impl_DivideBonus_any b0 (some ⟨gh0, 0, none⟩) n0 n0 (some ⟨gh1, 0, none⟩) n1 n1 xs1 a2 a3 _ (basT_of HRh0.out HT0.out) HL1.out hs1' HRh1.out.rd HF1.out HF2.out HF3.out).mono ?_
  rintro e w19 ⟨AH0, nH0, cH0, rfl, hHRH0, hb19⟩
  have BK19 := BK18.trans (hb19.mono BK18.size)
  have hz19 : w18.heap.size ≤ w19.heap.size := hb19.size
  replace HA0 := Lib.hid (HA0.out.below' hb19)
  replace HRW0 := Lib.hid (HRW0.out.past hb19)
  replace HYx0 := Lib.hid (HYx0.out.below' hb19)
  replace HM0 := Lib.hid (HM0.out.past hb19)
  replace HRh0 := Lib.hid (HRh0.out.past hb19)
  replace HRh1 := Lib.hid (HRh1.out.past hb19)
  clear hb19
  have HRH0 := Lib.hid hHRH0; clear hHRH0
  have hwH0 := Lib.hid (fun g (hg : AH0 = some ⟨g, 0, none⟩) => show w18.heap.size ≤ g ∧ g < w19.heap.size by have h9 := HRH0.out.lt hg; simpa using h9)
  have hmH0 : nH0 ≤ 1048576 := by have h1 := HRH0.out.len; rw [intRows_length] at h1; have := dv_small b0 xs1 a2 a3; omega
  obtain rfl : nW0 = nH0 := by have h1 := HRH0.out.len; have h2 := HRW0.out.len; omega
  go_wp2_with fail
  refine (eqInt64S_any AH0 AW0 nW0 cH0 cW0 ((dvP b0 xs1 a2 a3).1) _ (by omega) (by have := HRH0.out.len; rwa [intRows_length] at this) HRH0.out.rd HRW0.out.rd).mono ?_
  rintro e w20 ⟨rfl, hb20⟩
  have BK20 := BK19.trans (hb20.mono BK19.size)
  have hz20 : w19.heap.size ≤ w20.heap.size := hb20.size
  replace HA0 := Lib.hid (HA0.out.below' hb20)
  replace HRW0 := Lib.hid (HRW0.out.past hb20)
  replace HYx0 := Lib.hid (HYx0.out.below' hb20)
  replace HM0 := Lib.hid (HM0.out.past hb20)
  replace HRH0 := Lib.hid (HRH0.out.past hb20)
  clear hb20
  go_wp2_with fail
  refine (heldInt64S_at AG0 nW0 cG0 1 _ _ (by omega) (by omega) HM0.out (by omega)).mono ?_
  rintro e w' ⟨rfl, rfl⟩
  go_wp2
  go_ret
  exact ⟨rfl, BK20⟩

set_option maxRecDepth 100000 in
theorem lifted (os : Os) (started : os.Started) (H : Type) (enc : TypeId × Value → H) :
    ReturnsInHanded {} Tryz.checked os 6 .any (Rows.fnExactDivideBonusSpec.pre6 enc Tryz.prog Tryz.f6 Rows.fnExactDivideBonusRow.domain false) (Rows.fnExactDivideBonusSpec.post enc Tryz.prog Tryz.f6 false true false false) := by
  refine law_lifted os started H enc 4 (by kernel_rfl) Tryz.func6
    (ChangeSpec.witness6 (enc := enc) (C := Tryz.checked) false ⟨#[], #[.agg #[.int .i64 0, .slice none 0 0, .int .i64 0], .slice none 0 0, .int .i64 0, .int .i64 0], []⟩ 8 (by kernel_rfl) (by kernel_rfl) (by kernel_rfl) (by kernel_rfl)) rfl rfl Tryz.underlying4
    (by rw [Tryz.params6]; simp only [List.forall_mem_cons]; exact ⟨⟨by kernel_rfl, of_decide_eq_true (by kernel_rfl)⟩, ⟨by kernel_rfl, of_decide_eq_true (by kernel_rfl)⟩, ⟨by kernel_rfl, of_decide_eq_true (by kernel_rfl)⟩, ⟨by kernel_rfl, of_decide_eq_true (by kernel_rfl)⟩, by simp⟩) (fun ds hl => by
      match ds, hl with
      | [d0, d1, d2, d3], _ => rfl) ?_
  intro W base args ds p hval hA
  rw [Tryz.params6] at hA hval
  obtain ⟨v0, vs0, d0, ds0, p0, q0, hargs, rfl, rfl, h0, rr0⟩ := trodAll_cons hA
  obtain ⟨v1, vs1, d1, ds1, p1, q1, rfl, rfl, rfl, h1, rr1⟩ := trodAll_cons rr0
  obtain ⟨v2, vs2, d2, ds2, p2, q2, rfl, rfl, rfl, h2, rr2⟩ := trodAll_cons rr1
  obtain ⟨v3, vs3, d3, ds3, p3, q3, rfl, rfl, rfl, h3, rr3⟩ := trodAll_cons rr2
  obtain ⟨rfl, rfl, rfl⟩ := trodAll_nil rr3
  obtain rfl : args = #[v0, v1, v2, v3] := by cases args; simp_all
  obtain ⟨b0, A0, n0, c0, rfl, hn0, hl0, hX0, hf0, i0, j0⟩ := open_basis (hval 0 71 v0 rfl rfl) h0
  obtain ⟨A1, n1, c1, rfl⟩ := okWide_slice Tryz.underlying72 (hval 1 72 v1 rfl rfl)
  obtain ⟨fu1, ho1⟩ := h1
  obtain ⟨hn1, rw1, hrl1, hrw1, hRd1⟩ := open_rows Tryz.underlying72 (by kernel_rfl) (by decide) Holding.intCells ho1
  obtain ⟨xs1, hxl1, hxr1, hxf1⟩ := Holding.of_nums rw1 hrw1
  rw [← hxr1] at hRd1
  obtain ⟨a2, rfl, rfl, rfl, wf2⟩ := open_int Tryz.underlying2 (hval 2 2 v2 rfl rfl) h2
  obtain ⟨a3, rfl, rfl, rfl, wf3⟩ := open_int Tryz.underlying2 (hval 3 2 v3 rfl rfl) h3
  exact walk b0 A0 n0 c0 A1 n1 c1 xs1 a2 a3 W hn0 hl0 hX0 hf0 i0 j0 hn1 (hxl1.trans hrl1) hRd1 hxf1 (in64_of_wf wf2) (in64_of_wf wf3)
theorem proved : Rows.FnExactDivideBonusSaid :=
  OpenClaim.holds_of_wide 6 Tryz.f6 rfl rfl rfl rfl rfl rfl rfl ⟨rfl, rfl, rfl, rfl, rfl⟩ rfl rfl rfl rfl rfl (by kernel_rfl) Tryz.func6 (by kernel_rfl)
    (of_decide_eq_true (by kernel_rfl)) (by unfold Func.isWrapper; first | (rw [if_pos (by decide +kernel)]; kernel_rfl) | (rw [if_neg (by decide +kernel)]; exact ⟨rfl, rfl⟩))
    (fun os started H enc _ => lifted os started H enc)
end fnExactDivideBonus
end Go.Proofs.YtbjdbpdgacfcpaaGreat
