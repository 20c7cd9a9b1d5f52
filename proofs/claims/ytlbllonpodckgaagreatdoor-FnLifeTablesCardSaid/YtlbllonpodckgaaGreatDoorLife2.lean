/- Lives at an age, deaths, a table's end: the program's and the reference's contracts. -/
import Derived.Test.YtlbllonpodckgaaGreatDoorLife
import Derived.Test.YtlbllonpodckgaaGreatDoorRate
namespace Go.Proofs.YtlbllonpodckgaaGreatDoor
open Go.RowKit Go.BigFrame

theorem Tab.size : (Tryz.prog.info? 40).map (·.size) = some 2 := by kernel_rfl
theorem LiesT.at_past {w : World} {A : Option Addr} {n : Nat} {xs : List Int} (h : LiesT w A n xs) (x : Past w) : LiesT x.1 A n xs := h.past x.2

theorem impl_LifeTable_end_any (first : Int) (A : Option Addr) (n cap : Nat) (w : World) (hn : n ≤ 1048576) (hf : 0 ≤ first ∧ first ≤ 100) :
    Calls Tryz.prog 167 #[.agg #[.int .i64 first, .slice A n cap]] w fun e w' => e = .returned (.int .i64 (first + (n : Int) - 1)) ∧ Below w.heap.size w w' := by
  have hbw : Below w.heap.size w (w.alloc (.cells #[.int .i64 first, .slice A n cap] 40)) := (Below.refl _ w).alloc (Nat.le_refl _) _
  have HB := Lib.hid (Blk.new w 40 #[.int .i64 first, .slice A n cap])
  obtain ⟨f1, f2⟩ := hf
  have b0 : (w.alloc (.cells #[.int .i64 first, .slice A n cap] 40)).cell? ⟨w.heap.size, 0, none⟩ = some (.int .i64 first) := HB.out.cell 0
  have b1 : (w.alloc (.cells #[.int .i64 first, .slice A n cap] 40)).cell? ⟨w.heap.size, 1, none⟩ = some (.slice A n cap) := HB.out.cell 1
  have d0 := fun y : Past (w.alloc (.cells #[.int .i64 first, .slice A n cap] 40)) => Past.cell b0 y
  have d1 := fun y : Past (w.alloc (.cells #[.int .i64 first, .slice A n cap] 40)) => Past.cell b1 y
  go_enter Tryz.func167, Tryz.ntmps167
  go_wp2
  refine wp_region_past (by kernel_rfl) (by kernel_rfl) ?_
  repeat (go_big_quiet_step ((go_at_call 95; exact past_same (intsLen_any A n cap _ hn))))
  refine wpQuiet_nil ?_
  rintro _ ⟨y, rfl⟩
  go_wp2
  go_ret
  exact ⟨rfl, hbw.trans (y.2.mono (by simp))⟩

theorem spec_l03End_any (first : Int) (A : Option Addr) (n cap : Nat) (w : World) (hn : n ≤ 1048576) (hf : 0 ≤ first ∧ first ≤ 100) :
    Calls Tryz.prog 137 #[.agg #[.int .i64 first, .slice A n cap]] w fun e w' => e = .returned (.int .i64 (first + (n : Int) - 1)) ∧ Below w.heap.size w w' := by
  have hbw : Below w.heap.size w (w.alloc (.cells #[.int .i64 first, .slice A n cap] 40)) := (Below.refl _ w).alloc (Nat.le_refl _) _
  obtain ⟨f1, f2⟩ := hf
  go_enter Tryz.func137, Tryz.ntmps137
  go_wp2
  go_ret
  exact ⟨rfl, hbw⟩

set_option maxHeartbeats 1000000 in
theorem impl_LifeTable_lives_any (first : Int) (A : Option Addr) (n cap : Nat) (xs : List Int) (age : Int) (w : World) (hT : LiesT w A n xs) (T : TabOk first xs) (ha : first ≤ age ∧ age ≤ 100000) :
    Calls Tryz.prog 112 #[.agg #[.int .i64 first, .slice A n cap], .int .i64 age] w fun e w' => e = .returned (.int .i64 (lv xs (age - first).toNat)) ∧ Below w.heap.size w w' := by
  have hbw : Below w.heap.size w (w.alloc (.cells #[.int .i64 first, .slice A n cap] 40)) := (Below.refl _ w).alloc (Nat.le_refl _) _
  have HB := Lib.hid (Blk.new w 40 #[.int .i64 first, .slice A n cap])
  have HT := Lib.hid (hT.past hbw); clear hT
  have hn := HT.out.small
  have HL := Lib.hid HT.out.len
  obtain ⟨a1, a2⟩ := ha
  obtain ⟨k, hk⟩ := Int.eq_ofNat_of_zero_le (show 0 ≤ age - first by omega)
  have e : (age - first).toNat = k := by omega
  rw [e]
  have T1 := T.first0; have T2 := T.first1
  have HTab := Lib.hid T; clear T
  by_cases h : first + (n : Int) - 1 < age
  · have Q := Lib.hid (show lv xs k = 0 from HTab.out.zero k (by have := HL.out; omega))
    clear e
    go_enter Tryz.func112, Tryz.ntmps112
    go_wp2_with (first | (go_at_call 167; refine (impl_LifeTable_end_any first A n cap _ hn ⟨T1, T2⟩).mono ?_; rintro e w1 ⟨rfl, hb1⟩))
    go_ret
    exact ⟨by rw [Q.out]; rfl, hbw.trans (hb1.mono (by simp))⟩
  · obtain ⟨ad, rfl, had, hck⟩ := HT.out.at_ (k := k) (by omega)
    clear e
    go_enter Tryz.func112, Tryz.ntmps112
    go_wp2_with fail
    refine (impl_LifeTable_end_any first (some ad) n cap _ hn ⟨T1, T2⟩).mono ?_
    rintro e w1 ⟨rfl, hb1⟩
    have b0 : w1.cell? ⟨w.heap.size, 0, none⟩ = some (.int .i64 first) := (HB.out.below' hb1).cell 0
    have b1 : w1.cell? ⟨w.heap.size, 1, none⟩ = some (.slice (some ad) n cap) := (HB.out.below' hb1).cell 1
    have hck1 := (hb1.cell (p := ad.add k) (by rw [block_of_add]; exact had)).trans hck
    have hkn : (k : Int) < (n : Int) := by omega
    go_wp2
    go_ret
    exact ⟨rfl, hbw.trans (hb1.mono (by simp))⟩

set_option maxHeartbeats 1000000 in
theorem spec_l03Lives_any (first : Int) (A : Option Addr) (n cap : Nat) (xs : List Int) (age : Int) (w : World) (hT : LiesT w A n xs) (hf : 0 ≤ first ∧ first ≤ 100) (ha : first ≤ age ∧ age ≤ 100000) :
    Calls Tryz.prog 111 #[.agg #[.int .i64 first, .slice A n cap], .int .i64 age] w fun e w' => e = .returned (.int .i64 (lv xs (age - first).toNat)) ∧ Below w.heap.size w w' := by
  have hbw : Below w.heap.size w (w.alloc (.cells #[.int .i64 first, .slice A n cap] 40)) := (Below.refl _ w).alloc (Nat.le_refl _) _
  have HT := Lib.hid (hT.past hbw); clear hT
  have hn := HT.out.small
  have HL := Lib.hid HT.out.len
  obtain ⟨a1, a2⟩ := ha
  obtain ⟨f1, f2⟩ := hf
  obtain ⟨k, hk⟩ := Int.eq_ofNat_of_zero_le (show 0 ≤ age - first by omega)
  have e : (age - first).toNat = k := by omega
  rw [e]
  clear e
  by_cases h : n ≤ k
  · have Q := Lib.hid (show lv xs k = 0 from lv_past (by have := HL.out; omega))
    have h' : (n : Int) ≤ (k : Int) := by omega
    go_enter Tryz.func111, Tryz.ntmps111
    go_wp2
    go_ret
    exact ⟨by rw [Q.out]; rfl, hbw⟩
  · obtain ⟨ad, rfl, had, hck⟩ := HT.out.at_ (k := k) (by omega)
    have hkn : (k : Int) < (n : Int) := by omega
    go_enter Tryz.func111, Tryz.ntmps111
    go_wp2
    go_ret
    exact ⟨rfl, hbw⟩

theorem impl_LifeTable_deaths_any (first : Int) (A : Option Addr) (n cap : Nat) (xs : List Int) (age : Int) (w : World) (hT : LiesT w A n xs) (T : TabOk first xs) (ha : first ≤ age ∧ age ≤ 10000) :
    Calls Tryz.prog 109 #[.agg #[.int .i64 first, .slice A n cap], .int .i64 age] w fun e w' => e = .returned (.int .i64 (lv xs (age - first).toNat - lv xs ((age - first).toNat + 1))) ∧ Below w.heap.size w w' := by
  have hbw : Below w.heap.size w (w.alloc (.cells #[.int .i64 first, .slice A n cap] 40)) := (Below.refl _ w).alloc (Nat.le_refl _) _
  have HB := Lib.hid (Blk.new w 40 #[.int .i64 first, .slice A n cap])
  have HT := Lib.hid (hT.past hbw); clear hT
  obtain ⟨a1, a2⟩ := ha
  have T1 := T.first0; have T2 := T.first1
  have HTab := Lib.hid T; clear T
  have l1 := HTab.out.nonneg (age - first).toNat
  have l2 := HTab.out.most (age - first).toNat
  have l3 := HTab.out.nonneg ((age - first).toNat + 1)
  have l4 := HTab.out.most ((age - first).toNat + 1)
  have hE := (show (age + 1 - first).toNat = (age - first).toNat + 1 by omega)
  have hcs := Lib.hid (Blk.agg_past (cs := [.int .i64 first, .slice A n cap]) HB.out 0 [.int .i64 first, .slice A n cap] rfl)
  go_enter Tryz.func109, Tryz.ntmps109
  go_wp2
  refine wp_region_past (by kernel_rfl) (by kernel_rfl) ?_
  repeat (first | (go_big_quiet_want; (first | (refine quiet_load_agg 40 _ rfl ⟨w.heap.size, 0, none⟩ rfl [.int .i64 first, .slice A n cap] hcs.out _ Tryz.underlying40 rfl Tab.size ?_)); go_simp; go_big_quiet_on) | go_big_quiet_step ((go_at_call 112; exact past_call (impl_LifeTable_lives_any first A n cap xs _ _ (HT.out.at_past _) HTab.out ⟨by omega, by omega⟩))))
  refine wpQuiet_nil ?_
  rintro _ ⟨y, rfl⟩
  go_wp2
  go_ret
  exact ⟨rfl, hbw.trans (y.2.mono (by simp))⟩

set_option maxHeartbeats 1000000 in
theorem spec_l05D_any (first : Int) (A : Option Addr) (n cap : Nat) (xs : List Int) (rate age : Int) (w : World) (hT : LiesT w A n xs) (T : TabOk first xs) (hr : 0 ≤ rate ∧ rate ≤ 200) (ha : first ≤ age ∧ age ≤ 1000) :
    Calls Tryz.prog 85 #[.agg #[.int .i64 first, .slice A n cap], .int .i64 rate, .int .i64 age] w fun e w' => e = .returned (.int .i64 (dC xs rate (age - first).toNat)) ∧ Below w.heap.size w w' := by
  have hbw : Below w.heap.size w (w.alloc (.cells #[.int .i64 first, .slice A n cap] 40)) := (Below.refl _ w).alloc (Nat.le_refl _) _
  have HB := Lib.hid (Blk.new w 40 #[.int .i64 first, .slice A n cap])
  have HT := Lib.hid (hT.past hbw); clear hT
  have HL := Lib.hid HT.out.len
  obtain ⟨a1, a2⟩ := ha
  obtain ⟨r1, r2⟩ := hr
  obtain ⟨k, hk⟩ := Int.eq_ofNat_of_zero_le (show 0 ≤ age - first by omega)
  have HE := Lib.hid (show (age - first).toNat = k by omega)
  rw [HE.out]
  have T1 := T.first0; have T2 := T.first1
  have HTab := Lib.hid T; clear T
  by_cases h1 : k ≤ 120
  rotate_left
  · have Q := Lib.hid (show dC xs rate k = 0 from dC_zero HTab.out k (by have := HTab.out.len1; omega))
    go_enter Tryz.func85, Tryz.ntmps85
    go_wp2
    go_ret
    exact ⟨by rw [Q.out]; rfl, hbw⟩
  have l1 := HTab.out.nonneg k
  have l2 := HTab.out.most k
  by_cases h2 : lv xs k = 0
  · have Q := Lib.hid (show dC xs rate k = 0 by unfold dC; rw [h2, Int.zero_mul])
    have H2 := Lib.hid h2
    clear l1 l2 h2
    go_enter Tryz.func85, Tryz.ntmps85
    go_wp2_with (first | (go_at_call 111; refine (spec_l03Lives_any first A n cap xs age _ HT.out ⟨by omega, by omega⟩ ⟨by omega, by omega⟩).mono ?_; rw [HE.out, H2.out]; rintro e w1 ⟨rfl, hb1⟩))
    go_ret
    exact ⟨by rw [Q.out]; rfl, hbw.trans (hb1.mono (by simp))⟩
  have h2' : ¬ lv xs k = 0 := h2
  have h2b : (lv xs k == 0) = false := by simp [h2]
  have h1b : decide (120 < (k : Int)) = false := by simp; omega
  obtain ⟨e1, e2⟩ := disc_bound r1 k
  have m1 : 0 ≤ lv xs k * disc rate k := Int.mul_nonneg l1 e1
  have m2 : lv xs k * disc rate k ≤ 1000000 * 1000000000 := Int.mul_le_mul l2 e2 e1 (by omega)
  go_enter Tryz.func85, Tryz.ntmps85
  go_wp2_with fail
  refine (spec_l03Lives_any first A n cap xs age _ HT.out ⟨by omega, by omega⟩ ⟨by omega, by omega⟩).mono ?_
  rw [HE.out]
  rintro e w1 ⟨rfl, hb1⟩
  have HB1 := Lib.hid (HB.out.below' hb1)
  have HT1 := Lib.hid (HT.out.past hb1)
  have hc1 := Lib.hid (Blk.agg (cs := [.int .i64 first, .slice A n cap]) HB1.out 0 [.int .i64 first, .slice A n cap] rfl)
  go_wp2_with (refine wpList_load_agg rfl 40 _ rfl ⟨w.heap.size, 0, none⟩ rfl [.int .i64 first, .slice A n cap] hc1.out _ Tryz.underlying40 rfl Tab.size ?_)
  refine (spec_l03Lives_any first A n cap xs age _ HT1.out ⟨by omega, by omega⟩ ⟨by omega, by omega⟩).mono ?_
  rw [HE.out]
  rintro e w2 ⟨rfl, hb2⟩
  go_wp2_with fail
  refine (spec_l04Discount_nat rate k _ ⟨r1, r2⟩ (by omega)).mono ?_
  rintro e w3 ⟨rfl, rfl⟩
  go_wp2
  go_ret
  exact ⟨rfl, hbw.trans ((hb1.mono (by simp)).trans (hb2.mono (by have := hb1.size; simp at this; omega)))⟩

set_option maxHeartbeats 2000000 in
theorem spec_l05C_any (first : Int) (A : Option Addr) (n cap : Nat) (xs : List Int) (rate age : Int) (w : World) (hT : LiesT w A n xs) (T : TabOk first xs) (hr : 0 ≤ rate ∧ rate ≤ 200) (ha : first ≤ age ∧ age ≤ 1000) :
    Calls Tryz.prog 244 #[.agg #[.int .i64 first, .slice A n cap], .int .i64 rate, .int .i64 age] w fun e w' => e = .returned (.int .i64 (cC xs rate (age - first).toNat)) ∧ Below w.heap.size w w' := by
  have hbw : Below w.heap.size w (w.alloc (.cells #[.int .i64 first, .slice A n cap] 40)) := (Below.refl _ w).alloc (Nat.le_refl _) _
  have HB := Lib.hid (Blk.new w 40 #[.int .i64 first, .slice A n cap])
  have HT := Lib.hid (hT.past hbw); clear hT
  have HL := Lib.hid HT.out.len
  obtain ⟨a1, a2⟩ := ha
  obtain ⟨r1, r2⟩ := hr
  obtain ⟨k, hk⟩ := Int.eq_ofNat_of_zero_le (show 0 ≤ age - first by omega)
  have HE := Lib.hid (show (age - first).toNat = k by omega)
  have hE1 : (age + 1 - first).toNat = k + 1 := by omega
  rw [HE.out]
  have hE0 := HE.out
  have T1 := T.first0; have T2 := T.first1
  have HTab := Lib.hid T; clear T
  have l1 := HTab.out.nonneg k
  have l2 := HTab.out.most k
  have l3 := HTab.out.nonneg (k + 1)
  have l4 := HTab.out.anti k
  have hcs := Lib.hid (Blk.agg_past (cs := [.int .i64 first, .slice A n cap]) HB.out 0 [.int .i64 first, .slice A n cap] rfl)
  have hk1 : (k : Int) + 1 = ((k + 1 : Nat) : Int) := by omega
  have HK1 := Lib.hid hk1; clear hk1
  by_cases h1 : k + 1 ≤ 120
  rotate_left
  · have Q := Lib.hid (show cC xs rate k = 0 from cC_zero HTab.out k (by have := HTab.out.len1; omega))
    have h1i : ¬ (k : Int) + 1 ≤ 120 := by omega
    go_enter Tryz.func244, Tryz.ntmps244
    go_wp2
    refine wp_region_past (by kernel_rfl) (by kernel_rfl) ?_
    repeat (first | (go_big_quiet_want; (first | (refine quiet_load_agg 40 _ rfl ⟨w.heap.size, 0, none⟩ rfl [.int .i64 first, .slice A n cap] hcs.out _ Tryz.underlying40 rfl Tab.size ?_)); go_simp; go_big_quiet_on) | go_big_quiet_step ((go_at_call 111; exact past_call (spec_l03Lives_any first A n cap xs _ _ (HT.out.at_past _) ⟨by omega, by omega⟩ ⟨by omega, by omega⟩))))
    refine wpQuiet_nil ?_
    rintro _ ⟨y, rfl⟩
    go_wp2
    go_ret
    exact ⟨by rw [Q.out]; rfl, hbw.trans (y.2.mono (by simp))⟩
  have h1i : (k : Int) + 1 ≤ 120 := by omega
  obtain ⟨dd, hdd⟩ : ∃ dd, lv xs k - lv xs (k + 1) = dd := ⟨_, rfl⟩
  have QC := Lib.hid (show cC xs rate k = dd * disc rate (k + 1) by unfold cC; rw [hdd])
  have g1 : 0 ≤ dd := by omega
  have g2 : dd ≤ 1000000 := by omega
  by_cases h2 : dd = 0
  · have Q := Lib.hid (show cC xs rate k = 0 by rw [QC.out, h2, Int.zero_mul])
    rw [h2] at hdd
    clear g1 g2 h2 QC
    go_enter Tryz.func244, Tryz.ntmps244
    go_wp2
    refine wp_region_past (by kernel_rfl) (by kernel_rfl) ?_
    repeat (first | (go_big_quiet_want; (first | (refine quiet_load_agg 40 _ rfl ⟨w.heap.size, 0, none⟩ rfl [.int .i64 first, .slice A n cap] hcs.out _ Tryz.underlying40 rfl Tab.size ?_)); go_simp; go_big_quiet_on) | go_big_quiet_step ((go_at_call 111; exact past_call (spec_l03Lives_any first A n cap xs _ _ (HT.out.at_past _) ⟨by omega, by omega⟩ ⟨by omega, by omega⟩))))
    refine wpQuiet_nil ?_
    rintro _ ⟨y, rfl⟩
    go_wp2
    go_ret
    exact ⟨by rw [Q.out]; rfl, hbw.trans (y.2.mono (by simp))⟩
  have h2b : (dd == 0) = false := by simp [h2]
  have h1b : decide (120 < (k : Int) + 1) = false := by simp; omega
  have h1c : decide (120 < k + 1) = false := by simp; omega
  obtain ⟨e1, e2⟩ := disc_bound r1 (k + 1)
  have m1 : 0 ≤ dd * disc rate (k + 1) := Int.mul_nonneg g1 e1
  have m2 : dd * disc rate (k + 1) ≤ 1000000 * 1000000000 := Int.mul_le_mul g2 e2 e1 (by omega)
  go_enter Tryz.func244, Tryz.ntmps244
  go_wp2
  refine wp_region_past (by kernel_rfl) (by kernel_rfl) ?_
  repeat (first | (go_big_quiet_want; (first | (refine quiet_load_agg 40 _ rfl ⟨w.heap.size, 0, none⟩ rfl [.int .i64 first, .slice A n cap] hcs.out _ Tryz.underlying40 rfl Tab.size ?_)); go_simp; go_big_quiet_on) | go_big_quiet_step ((go_at_call 111; exact past_call (spec_l03Lives_any first A n cap xs _ _ (HT.out.at_past _) ⟨by omega, by omega⟩ ⟨by omega, by omega⟩))))
  refine wpQuiet_nil ?_
  rintro _ ⟨y, rfl⟩
  go_wp2_with fail
  refine (spec_l04Discount_any rate _ _ ⟨r1, r2⟩ ⟨by omega, by omega⟩).mono ?_
  rw [show ((k : Int) + 1).toNat = k + 1 by omega]
  rintro e w3 ⟨rfl, rfl⟩
  go_wp2
  go_ret
  exact ⟨by rw [QC.out]; rfl, hbw.trans (y.2.mono (by simp))⟩
end Go.Proofs.YtlbllonpodckgaaGreatDoor
