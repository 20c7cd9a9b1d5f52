/- Parts of a proof, one after another: Life2, Cols. No condition. -/
import Derived.Test.YtbjdbpdgacfcpaaGreatK1
import Derived.Test.YtbjdbpdgacfcpaaGreatK5
import Derived.Test.YtbjdbpdgacfcpaaGreatK6
import Derived.Deep.Cut
import Derived.Deep.DeepCutAuto
/- Lives at an age, deaths, a table's end: the program's and the reference's contracts. -/
section
namespace Go.Proofs.YtbjdbpdgacfcpaaGreat
open Go.RowKit Go.BigFrame

theorem Tab.size : (Tryz.prog.info? 26).map (·.size) = some 2 := by kernel_rfl
theorem LiesT.at_past {w : World} {A : Option Addr} {n : Nat} {xs : List Int} (h : LiesT w A n xs) (x : Past w) : LiesT x.1 A n xs := h.past x.2

theorem impl_LifeTable_end_any (first : Int) (A : Option Addr) (n cap : Nat) (w : World) (hn : n ≤ 1048576) (hf : 0 ≤ first ∧ first ≤ 100) :
    Calls Tryz.prog 152 #[.agg #[.int .i64 first, .slice A n cap]] w fun e w' => e = .returned (.int .i64 (first + (n : Int) - 1)) ∧ Below w.heap.size w w' := by
  have hbw : Below w.heap.size w (w.alloc (.cells #[.int .i64 first, .slice A n cap] 26)) := (Below.refl _ w).alloc (Nat.le_refl _) _
  have HB := Lib.hid (Blk.new w 26 #[.int .i64 first, .slice A n cap])
  obtain ⟨f1, f2⟩ := hf
  have b0 : (w.alloc (.cells #[.int .i64 first, .slice A n cap] 26)).cell? ⟨w.heap.size, 0, none⟩ = some (.int .i64 first) := HB.out.cell 0
  have b1 : (w.alloc (.cells #[.int .i64 first, .slice A n cap] 26)).cell? ⟨w.heap.size, 1, none⟩ = some (.slice A n cap) := HB.out.cell 1
  have d0 := fun y : Past (w.alloc (.cells #[.int .i64 first, .slice A n cap] 26)) => Past.cell b0 y
  have d1 := fun y : Past (w.alloc (.cells #[.int .i64 first, .slice A n cap] 26)) => Past.cell b1 y
  go_enter Tryz.func152, Tryz.ntmps152
  go_wp2
  refine wp_region_past (by kernel_rfl) (by kernel_rfl) ?_
  repeat (go_big_quiet_step ((go_at_call 93; exact past_same (intsLen_any A n cap _ hn))))
  refine wpQuiet_nil ?_
  rintro _ ⟨y, rfl⟩
  go_wp2
  go_ret
  exact ⟨rfl, hbw.trans (y.2.mono (by simp))⟩

theorem spec_l03End_any (first : Int) (A : Option Addr) (n cap : Nat) (w : World) (hn : n ≤ 1048576) (hf : 0 ≤ first ∧ first ≤ 100) :
    Calls Tryz.prog 167 #[.agg #[.int .i64 first, .slice A n cap]] w fun e w' => e = .returned (.int .i64 (first + (n : Int) - 1)) ∧ Below w.heap.size w w' := by
  have hbw : Below w.heap.size w (w.alloc (.cells #[.int .i64 first, .slice A n cap] 26)) := (Below.refl _ w).alloc (Nat.le_refl _) _
  obtain ⟨f1, f2⟩ := hf
  go_enter Tryz.func167, Tryz.ntmps167
  go_wp2
  go_ret
  exact ⟨rfl, hbw⟩

set_option maxHeartbeats 1000000 in
theorem impl_LifeTable_lives_any (first : Int) (A : Option Addr) (n cap : Nat) (xs : List Int) (age : Int) (w : World) (hT : LiesT w A n xs) (T : TabOk first xs) (ha : first ≤ age ∧ age ≤ 100000) :
    Calls Tryz.prog 112 #[.agg #[.int .i64 first, .slice A n cap], .int .i64 age] w fun e w' => e = .returned (.int .i64 (lv xs (age - first).toNat)) ∧ Below w.heap.size w w' := by
  have hbw : Below w.heap.size w (w.alloc (.cells #[.int .i64 first, .slice A n cap] 26)) := (Below.refl _ w).alloc (Nat.le_refl _) _
  have HB := Lib.hid (Blk.new w 26 #[.int .i64 first, .slice A n cap])
  have HT := Lib.hid (hT.past hbw); clear hT
  have hn := HT.out.small
  have HL := Lib.hid HT.out.len
  obtain ⟨a1, a2⟩ := ha
  obtain ⟨k, hk⟩ := Int.eq_ofNat_of_zero_le (show 0 ≤ age - first by omega)
  have e : (age - first).toNat = k := by omega
  rw [e]
  have T1 := T.first0; have T2 := T.first1
  have HTab := Lib.hid T; clear T
  by_cases h : first + (n : Int) - 1 < age
  · have Q := Lib.hid (show lv xs k = 0 from HTab.out.zero k (by have := HL.out; omega))
    clear e
    go_enter Tryz.func112, Tryz.ntmps112
    go_wp2_with (first | (go_at_call 152; refine (impl_LifeTable_end_any first A n cap _ hn ⟨T1, T2⟩).mono ?_; rintro e w1 ⟨rfl, hb1⟩))
    go_ret
    exact ⟨by rw [Q.out]; rfl, hbw.trans (hb1.mono (by simp))⟩
  · obtain ⟨ad, rfl, had, hck⟩ := HT.out.at_ (k := k) (by omega)
    clear e
    go_enter Tryz.func112, Tryz.ntmps112
    go_wp2_with fail
    refine (impl_LifeTable_end_any first (some ad) n cap _ hn ⟨T1, T2⟩).mono ?_
    rintro e w1 ⟨rfl, hb1⟩
    have b0 : w1.cell? ⟨w.heap.size, 0, none⟩ = some (.int .i64 first) := (HB.out.below' hb1).cell 0
    have b1 : w1.cell? ⟨w.heap.size, 1, none⟩ = some (.slice (some ad) n cap) := (HB.out.below' hb1).cell 1
    have hck1 := (hb1.cell (p := ad.add k) (by rw [block_of_add]; exact had)).trans hck
    have hkn : (k : Int) < (n : Int) := by omega
    go_wp2
    go_ret
    exact ⟨rfl, hbw.trans (hb1.mono (by simp))⟩

set_option maxHeartbeats 1000000 in
theorem spec_l03Lives_any (first : Int) (A : Option Addr) (n cap : Nat) (xs : List Int) (age : Int) (w : World) (hT : LiesT w A n xs) (hf : 0 ≤ first ∧ first ≤ 100) (ha : first ≤ age ∧ age ≤ 100000) :
    Calls Tryz.prog 113 #[.agg #[.int .i64 first, .slice A n cap], .int .i64 age] w fun e w' => e = .returned (.int .i64 (lv xs (age - first).toNat)) ∧ Below w.heap.size w w' := by
  have hbw : Below w.heap.size w (w.alloc (.cells #[.int .i64 first, .slice A n cap] 26)) := (Below.refl _ w).alloc (Nat.le_refl _) _
  have HT := Lib.hid (hT.past hbw); clear hT
  have hn := HT.out.small
  have HL := Lib.hid HT.out.len
  obtain ⟨a1, a2⟩ := ha
  obtain ⟨f1, f2⟩ := hf
  obtain ⟨k, hk⟩ := Int.eq_ofNat_of_zero_le (show 0 ≤ age - first by omega)
  have e : (age - first).toNat = k := by omega
  rw [e]
  clear e
  by_cases h : n ≤ k
  · have Q := Lib.hid (show lv xs k = 0 from lv_past (by have := HL.out; omega))
    have h' : (n : Int) ≤ (k : Int) := by omega
    go_enter Tryz.func113, Tryz.ntmps113
    go_wp2
    go_ret
    exact ⟨by rw [Q.out]; rfl, hbw⟩
  · obtain ⟨ad, rfl, had, hck⟩ := HT.out.at_ (k := k) (by omega)
    have hkn : (k : Int) < (n : Int) := by omega
    go_enter Tryz.func113, Tryz.ntmps113
    go_wp2
    go_ret
    exact ⟨rfl, hbw⟩

theorem impl_LifeTable_deaths_any (first : Int) (A : Option Addr) (n cap : Nat) (xs : List Int) (age : Int) (w : World) (hT : LiesT w A n xs) (T : TabOk first xs) (ha : first ≤ age ∧ age ≤ 10000) :
    Calls Tryz.prog 111 #[.agg #[.int .i64 first, .slice A n cap], .int .i64 age] w fun e w' => e = .returned (.int .i64 (lv xs (age - first).toNat - lv xs ((age - first).toNat + 1))) ∧ Below w.heap.size w w' := by
  have hbw : Below w.heap.size w (w.alloc (.cells #[.int .i64 first, .slice A n cap] 26)) := (Below.refl _ w).alloc (Nat.le_refl _) _
  have HB := Lib.hid (Blk.new w 26 #[.int .i64 first, .slice A n cap])
  have HT := Lib.hid (hT.past hbw); clear hT
  obtain ⟨a1, a2⟩ := ha
  have T1 := T.first0; have T2 := T.first1
  have HTab := Lib.hid T; clear T
  have l1 := HTab.out.nonneg (age - first).toNat
  have l2 := HTab.out.most (age - first).toNat
  have l3 := HTab.out.nonneg ((age - first).toNat + 1)
  have l4 := HTab.out.most ((age - first).toNat + 1)
  have hE := (show (age + 1 - first).toNat = (age - first).toNat + 1 by omega)
  have hcs := Lib.hid (Blk.agg_past (cs := [.int .i64 first, .slice A n cap]) HB.out 0 [.int .i64 first, .slice A n cap] rfl)
  go_enter Tryz.func111, Tryz.ntmps111
  go_wp2
  refine wp_region_past (by kernel_rfl) (by kernel_rfl) ?_
  repeat (first | (go_big_quiet_want; (first | (refine quiet_load_agg 26 _ rfl ⟨w.heap.size, 0, none⟩ rfl [.int .i64 first, .slice A n cap] hcs.out _ Tryz.underlying26 rfl Tab.size ?_)); go_simp; go_big_quiet_on) | go_big_quiet_step ((go_at_call 112; exact past_call (impl_LifeTable_lives_any first A n cap xs _ _ (HT.out.at_past _) HTab.out ⟨by omega, by omega⟩))))
  refine wpQuiet_nil ?_
  rintro _ ⟨y, rfl⟩
  go_wp2
  go_ret
  exact ⟨rfl, hbw.trans (y.2.mono (by simp))⟩

set_option maxHeartbeats 1000000 in
theorem spec_l05D_any (first : Int) (A : Option Addr) (n cap : Nat) (xs : List Int) (rate age : Int) (w : World) (hT : LiesT w A n xs) (T : TabOk first xs) (hr : 0 ≤ rate ∧ rate ≤ 200) (ha : first ≤ age ∧ age ≤ 1000) :
    Calls Tryz.prog 170 #[.agg #[.int .i64 first, .slice A n cap], .int .i64 rate, .int .i64 age] w fun e w' => e = .returned (.int .i64 (dC xs rate (age - first).toNat)) ∧ Below w.heap.size w w' := by
  have hbw : Below w.heap.size w (w.alloc (.cells #[.int .i64 first, .slice A n cap] 26)) := (Below.refl _ w).alloc (Nat.le_refl _) _
  have HB := Lib.hid (Blk.new w 26 #[.int .i64 first, .slice A n cap])
  have HT := Lib.hid (hT.past hbw); clear hT
  have HL := Lib.hid HT.out.len
  obtain ⟨a1, a2⟩ := ha
  obtain ⟨r1, r2⟩ := hr
  obtain ⟨k, hk⟩ := Int.eq_ofNat_of_zero_le (show 0 ≤ age - first by omega)
  have HE := Lib.hid (show (age - first).toNat = k by omega)
  rw [HE.out]
  have T1 := T.first0; have T2 := T.first1
  have HTab := Lib.hid T; clear T
  by_cases h1 : k ≤ 120
  rotate_left
  · have Q := Lib.hid (show dC xs rate k = 0 from dC_zero HTab.out k (by have := HTab.out.len1; omega))
    go_enter Tryz.func170, Tryz.ntmps170
    go_wp2
    go_ret
    exact ⟨by rw [Q.out]; rfl, hbw⟩
  have l1 := HTab.out.nonneg k
  have l2 := HTab.out.most k
  by_cases h2 : lv xs k = 0
  · have Q := Lib.hid (show dC xs rate k = 0 by unfold dC; rw [h2, Int.zero_mul])
    have H2 := Lib.hid h2
    clear l1 l2 h2
    go_enter Tryz.func170, Tryz.ntmps170
    go_wp2_with (first | (go_at_call 113; refine (spec_l03Lives_any first A n cap xs age _ HT.out ⟨by omega, by omega⟩ ⟨by omega, by omega⟩).mono ?_; rw [HE.out, H2.out]; rintro e w1 ⟨rfl, hb1⟩))
    go_ret
    exact ⟨by rw [Q.out]; rfl, hbw.trans (hb1.mono (by simp))⟩
  have h2' : ¬ lv xs k = 0 := h2
  have h2b : (lv xs k == 0) = false := by simp [h2]
  have h1b : decide (120 < (k : Int)) = false := by simp; omega
  obtain ⟨e1, e2⟩ := disc_bound r1 k
  have m1 : 0 ≤ lv xs k * disc rate k := Int.mul_nonneg l1 e1
  have m2 : lv xs k * disc rate k ≤ 1000000 * 1000000000 := Int.mul_le_mul l2 e2 e1 (by omega)
  go_enter Tryz.func170, Tryz.ntmps170
  go_wp2_with fail
  refine (spec_l03Lives_any first A n cap xs age _ HT.out ⟨by omega, by omega⟩ ⟨by omega, by omega⟩).mono ?_
  rw [HE.out]
  rintro e w1 ⟨rfl, hb1⟩
  have HB1 := Lib.hid (HB.out.below' hb1)
  have HT1 := Lib.hid (HT.out.past hb1)
  have hc1 := Lib.hid (Blk.agg (cs := [.int .i64 first, .slice A n cap]) HB1.out 0 [.int .i64 first, .slice A n cap] rfl)
  go_wp2_with (refine wpList_load_agg rfl 26 _ rfl ⟨w.heap.size, 0, none⟩ rfl [.int .i64 first, .slice A n cap] hc1.out _ Tryz.underlying26 rfl Tab.size ?_)
  refine (spec_l03Lives_any first A n cap xs age _ HT1.out ⟨by omega, by omega⟩ ⟨by omega, by omega⟩).mono ?_
  rw [HE.out]
  rintro e w2 ⟨rfl, hb2⟩
  go_wp2_with fail
  refine (spec_l04Discount_nat rate k _ ⟨r1, r2⟩ (by omega)).mono ?_
  rintro e w3 ⟨rfl, rfl⟩
  go_wp2
  go_ret
  exact ⟨rfl, hbw.trans ((hb1.mono (by simp)).trans (hb2.mono (by have := hb1.size; simp at this; omega)))⟩

set_option maxHeartbeats 2000000 in
theorem spec_l05C_any (first : Int) (A : Option Addr) (n cap : Nat) (xs : List Int) (rate age : Int) (w : World) (hT : LiesT w A n xs) (T : TabOk first xs) (hr : 0 ≤ rate ∧ rate ≤ 200) (ha : first ≤ age ∧ age ≤ 1000) :
    Calls Tryz.prog 200 #[.agg #[.int .i64 first, .slice A n cap], .int .i64 rate, .int .i64 age] w fun e w' => e = .returned (.int .i64 (cC xs rate (age - first).toNat)) ∧ Below w.heap.size w w' := by
  have hbw : Below w.heap.size w (w.alloc (.cells #[.int .i64 first, .slice A n cap] 26)) := (Below.refl _ w).alloc (Nat.le_refl _) _
  have HB := Lib.hid (Blk.new w 26 #[.int .i64 first, .slice A n cap])
  have HT := Lib.hid (hT.past hbw); clear hT
  have HL := Lib.hid HT.out.len
  obtain ⟨a1, a2⟩ := ha
  obtain ⟨r1, r2⟩ := hr
  obtain ⟨k, hk⟩ := Int.eq_ofNat_of_zero_le (show 0 ≤ age - first by omega)
  have HE := Lib.hid (show (age - first).toNat = k by omega)
  have hE1 : (age + 1 - first).toNat = k + 1 := by omega
  rw [HE.out]
  have hE0 := HE.out
  have T1 := T.first0; have T2 := T.first1
  have HTab := Lib.hid T; clear T
  have l1 := HTab.out.nonneg k
  have l2 := HTab.out.most k
  have l3 := HTab.out.nonneg (k + 1)
  have l4 := HTab.out.anti k
  have hcs := Lib.hid (Blk.agg_past (cs := [.int .i64 first, .slice A n cap]) HB.out 0 [.int .i64 first, .slice A n cap] rfl)
  have hk1 : (k : Int) + 1 = ((k + 1 : Nat) : Int) := by omega
  have HK1 := Lib.hid hk1; clear hk1
  by_cases h1 : k + 1 ≤ 120
  rotate_left
  · have Q := Lib.hid (show cC xs rate k = 0 from cC_zero HTab.out k (by have := HTab.out.len1; omega))
    have h1i : ¬ (k : Int) + 1 ≤ 120 := by omega
    go_enter Tryz.func200, Tryz.ntmps200
    go_wp2
    refine wp_region_past (by kernel_rfl) (by kernel_rfl) ?_
    repeat (first | (go_big_quiet_want; (first | (refine quiet_load_agg 26 _ rfl ⟨w.heap.size, 0, none⟩ rfl [.int .i64 first, .slice A n cap] hcs.out _ Tryz.underlying26 rfl Tab.size ?_)); go_simp; go_big_quiet_on) | go_big_quiet_step ((go_at_call 113; exact past_call (spec_l03Lives_any first A n cap xs _ _ (HT.out.at_past _) ⟨by omega, by omega⟩ ⟨by omega, by omega⟩))))
    refine wpQuiet_nil ?_
    rintro _ ⟨y, rfl⟩
    go_wp2
    go_ret
    exact ⟨by rw [Q.out]; rfl, hbw.trans (y.2.mono (by simp))⟩
  have h1i : (k : Int) + 1 ≤ 120 := by omega
  obtain ⟨dd, hdd⟩ : ∃ dd, lv xs k - lv xs (k + 1) = dd := ⟨_, rfl⟩
  have QC := Lib.hid (show cC xs rate k = dd * disc rate (k + 1) by unfold cC; rw [hdd])
  have g1 : 0 ≤ dd := by omega
  have g2 : dd ≤ 1000000 := by omega
  by_cases h2 : dd = 0
  · have Q := Lib.hid (show cC xs rate k = 0 by rw [QC.out, h2, Int.zero_mul])
    rw [h2] at hdd
    clear g1 g2 h2 QC
    go_enter Tryz.func200, Tryz.ntmps200
    go_wp2
    refine wp_region_past (by kernel_rfl) (by kernel_rfl) ?_
    repeat (first | (go_big_quiet_want; (first | (refine quiet_load_agg 26 _ rfl ⟨w.heap.size, 0, none⟩ rfl [.int .i64 first, .slice A n cap] hcs.out _ Tryz.underlying26 rfl Tab.size ?_)); go_simp; go_big_quiet_on) | go_big_quiet_step ((go_at_call 113; exact past_call (spec_l03Lives_any first A n cap xs _ _ (HT.out.at_past _) ⟨by omega, by omega⟩ ⟨by omega, by omega⟩))))
    refine wpQuiet_nil ?_
    rintro _ ⟨y, rfl⟩
    go_wp2
    go_ret
    exact ⟨by rw [Q.out]; rfl, hbw.trans (y.2.mono (by simp))⟩
  have h2b : (dd == 0) = false := by simp [h2]
  have h1b : decide (120 < (k : Int) + 1) = false := by simp; omega
  have h1c : decide (120 < k + 1) = false := by simp; omega
  obtain ⟨e1, e2⟩ := disc_bound r1 (k + 1)
  have m1 : 0 ≤ dd * disc rate (k + 1) := Int.mul_nonneg g1 e1
  have m2 : dd * disc rate (k + 1) ≤ 1000000 * 1000000000 := Int.mul_le_mul g2 e2 e1 (by omega)
  go_enter Tryz.func200, Tryz.ntmps200
  go_wp2
  refine wp_region_past (by kernel_rfl) (by kernel_rfl) ?_
  repeat (first | (go_big_quiet_want; (first | (refine quiet_load_agg 26 _ rfl ⟨w.heap.size, 0, none⟩ rfl [.int .i64 first, .slice A n cap] hcs.out _ Tryz.underlying26 rfl Tab.size ?_)); go_simp; go_big_quiet_on) | go_big_quiet_step ((go_at_call 113; exact past_call (spec_l03Lives_any first A n cap xs _ _ (HT.out.at_past _) ⟨by omega, by omega⟩ ⟨by omega, by omega⟩))))
  refine wpQuiet_nil ?_
  rintro _ ⟨y, rfl⟩
  go_wp2_with fail
  refine (spec_l04Discount_any rate _ _ ⟨r1, r2⟩ ⟨by omega, by omega⟩).mono ?_
  rw [show ((k : Int) + 1).toNat = k + 1 by omega]
  rintro e w3 ⟨rfl, rfl⟩
  go_wp2
  go_ret
  exact ⟨by rw [QC.out]; rfl, hbw.trans (y.2.mono (by simp))⟩
end Go.Proofs.YtbjdbpdgacfcpaaGreat
end

/- The list of columns of a life table: the program's contract. -/
section
namespace Go.Proofs.YtbjdbpdgacfcpaaGreat
open Go.RowKit Go.BigFrame

theorem Columns.info : (Tryz.prog.info? 170).map (fun i => (i.zero, i.size, i.bytes)) = some (some (.agg #[.int .i64 0, .int .i64 0, .int .i64 0, .int .i64 0]), 4, 32) := by kernel_rfl
theorem Columns.size : (Tryz.prog.info? 170).map (·.size) = some 4 := by kernel_rfl
theorem columnsLen_any (A : Option Addr) (n cap : Nat) (w : World) :
    Calls Tryz.prog 174 #[.slice A n cap] w fun e w' => e = .returned (.int .i64 n) ∧ w = w' := by
  go_enter Tryz.func174, Tryz.ntmps174
  go_wp2
  go_ret
  exact ⟨rfl, rfl⟩
abbrev colRow (xs : List Int) (rate : Int) (k : Nat) : List Value := [.int .i64 (dC xs rate k), .int .i64 (nC xs rate k), .int .i64 (cC xs rate k), .int .i64 (mC xs rate k)]
def colRows (xs : List Int) (rate : Int) (top : Nat) : List (List Value) := (List.range top).map (colRow xs rate)
theorem colRows_get {xs : List Int} {rate : Int} {top k : Nat} (h : k < top) : (colRows xs rate top)[k]? = some (colRow xs rate k) := by simp [colRows, h]
/-- the rows from k on are there -/
def FromUp (cs : Array Value) (xs : List Int) (rate : Int) (k top : Nat) : Prop := ∀ j : Nat, k ≤ j → j < top → ∀ (i : Nat) (v : Value), (colRow xs rate j)[i]? = some v → cs[j * 4 + i]? = some v
theorem FromUp.step {cs : Array Value} {xs : List Int} {rate : Int} {k top : Nat} (h : FromUp cs xs rate (k + 1) top) (hs : cs.size = top * 4) (hk : k < top) : FromUp (putAt cs (k * 4) (colRow xs rate k)) xs rate k top := by
  intro j hj hjt i v hv
  have hi : i < 4 := (List.getElem?_eq_some_iff.1 hv).1
  have hl : (colRow xs rate k).length = 4 := rfl
  rw [putAt_get (by omega)]
  by_cases e : j = k
  · subst e
    rw [if_neg (by omega), if_pos (by omega), show j * 4 + i - j * 4 = i by omega]; exact hv
  · rw [if_neg (by omega), if_neg (by omega)]
    exact h j (by omega) hjt i v hv
theorem FromUp.rd {w : World} {g : Nat} {t : TypeId} {cs : Array Value} {xs : List Int} {rate : Int} {top : Nat} (hb : Blk w g t cs) (h : FromUp cs xs rate 0 top) : Rd w w.heap.size (some ⟨g, 0, none⟩) 4 (colRows xs rate top) := by
  refine .inr ⟨⟨g, 0, none⟩, rfl, hb.lt, fun k r hr => ?_⟩
  have hk : k < top := by have := (List.getElem?_eq_some_iff.1 hr).1; simpa [colRows] using this
  rw [colRows_get hk] at hr
  injection hr with hr
  subst hr
  refine ⟨rfl, fun j v hv => ?_⟩
  rw [add_none, hb.cell, Nat.zero_add]
  exact h k (by omega) hk j v hv

set_option maxHeartbeats 8000000 in
theorem impl_columnsOf_any (first : Int) (A : Option Addr) (n cap : Nat) (xs : List Int) (rate : Int) (w : World) (hT : LiesT w A n xs) (T : TabOk first xs) (hr : 0 ≤ rate ∧ rate ≤ 200) :
    Calls Tryz.prog 139 #[.agg #[.int .i64 first, .slice A n cap], .int .i64 rate] w fun e w' => ∃ g, e = .returned (.slice (some ⟨g, 0, none⟩) (151 - first).toNat (151 - first).toNat) ∧ Rd w' w'.heap.size (some ⟨g, 0, none⟩) 4 (colRows xs rate (151 - first).toNat) ∧ Below w.heap.size w w' := by
  have hbw : Below w.heap.size w (w.alloc (.cells #[.int .i64 first, .slice A n cap] 26)) := (Below.refl _ w).alloc (Nat.le_refl _) _
  have HB := Lib.hid (Blk.new w 26 #[.int .i64 first, .slice A n cap])
  have HT := Lib.hid (hT.past hbw); clear hT
  obtain ⟨r1, r2⟩ := hr
  have T1 := T.first0; have T2 := T.first1
  have HTab := Lib.hid T; clear T
  obtain ⟨top, htop⟩ := Int.eq_ofNat_of_zero_le (show 0 ≤ 151 - first by omega)
  have HE := Lib.hid (show (151 - first).toNat = top by omega)
  rw [HE.out]
  have htopi : 150 - first + 1 = (top : Int) := by omega
  have htop1 : top ≤ 151 := by omega
  have htop2 : 51 ≤ top := by omega
  have HTop := Lib.hid htop; clear htop
  have HD := Lib.hid (fun k : Nat => dC_bound HTab.out r1 k)
  have HCb := Lib.hid (fun k : Nat => cC_bound HTab.out r1 k)
  have HNb := Lib.hid (fun k : Nat => nC_bound HTab.out r1 k)
  have HMb := Lib.hid (fun k : Nat => mC_bound HTab.out r1 k)
  obtain ⟨i0, hi0, hz0, hz1, hz2⟩ := info_parts Columns.info
  have hmk : ∀ W : World, (Instr.makeSlice 145 (.int .i64 (top : Int)) (.int .i64 (top : Int))).run Tryz.prog W = .ok (.slice (some ⟨W.heap.size, 0, none⟩) top top) (W.alloc (.cells (madeCells (Value.agg #[.int .i64 0, .int .i64 0, .int .i64 0, .int .i64 0]).cells (top * 4)) 170)) := fun W => by
    have h := run_make_rowN (P := Tryz.prog) 145 170 i0 _ Tryz.underlying145 hi0 hz0 .i64 .i64 top top (Nat.le_refl _) (by rw [hz2]; omega) (by omega) W
    rw [hz1] at h
    exact h
  clear hi0 hz0 hz1 hz2
  have HMK := Lib.hid hmk; clear hmk
  go_enter Tryz.func139, Tryz.ntmps139
  go_wp2_with fail
  refine (impl_discounts_any rate _ ⟨r1, r2⟩).mono ?_
  rintro e w1 ⟨AD, cD, rfl, hD, hb1⟩
  have HB1 := Lib.hid (HB.out.below' hb1)
  have HT1 := Lib.hid (HT.out.past hb1)
  have HDR := Lib.hid hD.rd; clear hD
  have hbw1 : Below w.heap.size w w1 := hbw.trans (hb1.mono (by simp))
  have hs1 : w.heap.size + 1 ≤ w1.heap.size := by have := hb1.size; simpa using this
  have c0 : w1.cell? ⟨w.heap.size, 0, none⟩ = some (.int .i64 first) := HB1.out.cell 0
  have hmk := HMK.out w1
  go_wp2_with (first | (go_at_call 174; refine (columnsLen_any _ top top _).mono ?_; rintro e w' ⟨rfl, rfl⟩))
  clear hmk
  go_loopw [8] (fun i wr => ∃ r : Nat, r ≤ top ∧ i = .int .i64 ((r : Int) - 1) ∧ (∃ cs, Blk wr w1.heap.size 170 cs ∧ cs.size = top * 4 ∧ FromUp cs xs rate r top) ∧ Blk wr (w1.heap.size + 1) 170 #[.int .i64 0, .int .i64 (nC xs rate r), .int .i64 0, .int .i64 (mC xs rate r)] ∧ Below w1.heap.size w1 wr) (fun i _ => (intOf i + 1).toNat)
  case atStart =>
    refine ⟨top, by omega, rfl, ⟨_, (Blk.new w1 _ _).alloc _, by simp [madeCells], fun j h1 h2 => by omega⟩, ?_, ((Below.refl _ w1).alloc (Nat.le_refl _) _).alloc (by simp) _⟩
    rw [nC_zero HTab.out top (by have := HTab.out.len1; have := HTab.out.top; have := HTop.out; omega), mC_zero HTab.out top (by have := HTab.out.len1; have := HTab.out.top; have := HTop.out; omega)]
    have := Blk.new (w1.alloc (.cells (madeCells (Value.agg #[.int .i64 0, .int .i64 0, .int .i64 0, .int .i64 0]).cells (top * 4)) 170)) 170 #[.int .i64 0, .int .i64 0, .int .i64 0, .int .i64 0]
    rw [World.size_alloc] at this
    exact this
  case round =>
    obtain ⟨r, hrt, rfl, ⟨cs, hO, hcs, hup⟩, hS, hb⟩ := hrel
    have HO := Lib.hid hO; clear hO
    have HS := Lib.hid hS; clear hS
    have HUp := Lib.hid hup; clear hup
    have Hcs := Lib.hid hcs; clear hcs
    have hsz := hb.size
    have hO1 := HO.out.lt
    have hS1 := HS.out.lt
    cases r with
    | zero =>
      rw [show (((0 : Nat) : Int) - 1) = -1 from rfl]
      go_wp2
      go_ret
      exact ⟨_, rfl, FromUp.rd HO.out HUp.out, hbw1.trans (hb.mono (by omega))⟩
    | succ k =>
      rw [show (((k + 1 : Nat) : Int) - 1) = (k : Int) by omega]
      have hkt : k < top := by omega
      have hki : (k : Int) < (top : Int) := by omega
      have HBr := Lib.hid ((HB1.out.below hb (by omega)).alloc (.cells #[.int .i64 0, .int .i64 0, .int .i64 0, .int .i64 0] 170))
      have HTr := Lib.hid (HT1.out.past (hb.alloc hsz (.cells #[.int .i64 0, .int .i64 0, .int .i64 0, .int .i64 0] 170)))
      have HSr := Lib.hid (HS.out.alloc (.cells #[.int .i64 0, .int .i64 0, .int .i64 0, .int .i64 0] 170))
      have HOr := Lib.hid (HO.out.alloc (.cells #[.int .i64 0, .int .i64 0, .int .i64 0, .int .i64 0] 170))
      have HCr := Lib.hid (Blk.new wr 170 #[.int .i64 0, .int .i64 0, .int .i64 0, .int .i64 0])
      have hbr := hb.alloc hsz (.cells #[.int .i64 0, .int .i64 0, .int .i64 0, .int .i64 0] 170)
      have HDr := Lib.hid (HDR.out.past hbr)
      obtain ⟨d1, d2⟩ := HD.out k
      obtain ⟨wR, hwR⟩ : ∃ wR, wr.alloc (.cells #[.int .i64 0, .int .i64 0, .int .i64 0, .int .i64 0] 170) = wR := ⟨_, rfl⟩
      have HWR := Lib.hid hwR
      rw [hwR] at HBr HTr HSr HOr HCr hbr HDr
      have hR0 : wr.heap.size + 1 = wR.heap.size := by rw [← hwR]; simp
      clear hwR
      by_cases hk120 : k ≤ 120
      · have hk120i : (k : Int) ≤ 120 := by omega
        obtain ⟨ad, hAD, had, hck⟩ := HDr.out.int_at (discL_get rate (show k < 121 by omega))
        subst hAD
        have q0 := fun y : Past wR => Past.cell (p := ⟨w.heap.size, 0, none⟩) (v := .int .i64 first) (HBr.out.cell 0) y
        have q1 := fun y : Past wR => Past.cell hck y
        have hcT := Lib.hid (Blk.agg_past (cs := [.int .i64 first, .slice A n cap]) HBr.out 0 [.int .i64 first, .slice A n cap] rfl)
        have QD := Lib.hid (show lv xs k * disc rate k = dC xs rate k from rfl)
        have hd2 := QD.out
        have HEk := Lib.hid (show (first + (k : Int) - first).toNat = k by omega)
        go_wp2
        rw [HWR.out]
        refine wp_region_past_tail 12 (by kernel_rfl) (by kernel_rfl) ?_
        simp only [List.take_succ_cons, List.take_zero, List.drop_succ_cons, List.drop_zero]
        repeat (first | (go_big_quiet_want; (first | (refine quiet_load_agg 26 _ rfl ⟨w.heap.size, 0, none⟩ rfl [.int .i64 first, .slice A n cap] hcT.out _ Tryz.underlying26 rfl Tab.size ?_)); go_simp; go_big_quiet_on) | go_big_quiet_step ((go_at_call 112; exact past_call ((impl_LifeTable_lives_any first A n cap xs (first + (k : Int)) _ (HTr.out.at_past _) HTab.out ⟨by omega, by omega⟩).mono (by rw [HEk.out]; exact fun _ _ h => h)))))
        refine wpQuiet_nil ?_
        rintro _ ⟨y, rfl⟩
        clear q0 q1 hcT
        have HCy := Lib.hid (HCr.out.below' y.2)
        have HBy := Lib.hid (HBr.out.below' y.2)
        have HTy := Lib.hid (HTr.out.past y.2)
        have HSy := Lib.hid (HSr.out.below' y.2)
        have HOy := Lib.hid (HOr.out.below' y.2)
        have HDy := Lib.hid (HDr.out.past y.2)
        have hby : Below w1.heap.size w1 y.1 := hbr.trans (y.2.mono hbr.size)
        have fz : y.1.frozen? ⟨wr.heap.size, 0, none⟩ = false := HCy.out.frozen 0
        have cz : y.1.cell? ⟨wr.heap.size, 0, none⟩ = some (.int .i64 0) := HCy.out.cell 0
        go_upto_region 10 with (fail)
        clear hd2
        obtain ⟨wa, hwa⟩ : ∃ wa, y.1.setCell ⟨wr.heap.size, 0, none⟩ (.int .i64 (dC xs rate k)) = wa := ⟨_, rfl⟩
        have HCa : Hid (Blk wa wr.heap.size 170 #[.int .i64 (dC xs rate k), .int .i64 0, .int .i64 0, .int .i64 0]) := Lib.hid (by have h9 := HCy.out.set_ 0 (.int .i64 (dC xs rate k)); rw [hwa] at h9; exact h9)
        have HBa := Lib.hid (HBy.out.far (p := ⟨wr.heap.size, 0, none⟩) (by show w.heap.size ≠ wr.heap.size; omega) (.int .i64 (dC xs rate k))); rw [hwa] at HBa
        have HSa := Lib.hid (HSy.out.far (p := ⟨wr.heap.size, 0, none⟩) (by show (w1.heap.size + 1) ≠ wr.heap.size; omega) (.int .i64 (dC xs rate k))); rw [hwa] at HSa
        have HOa := Lib.hid (HOy.out.far (p := ⟨wr.heap.size, 0, none⟩) (by show w1.heap.size ≠ wr.heap.size; omega) (.int .i64 (dC xs rate k))); rw [hwa] at HOa
        have hba := hby.setCell (p := ⟨wr.heap.size, 0, none⟩) (by show w1.heap.size ≤ wr.heap.size; omega) (.int .i64 (dC xs rate k)); rw [hwa] at hba
        have HTa := Lib.hid (HT1.out.past hba)
        have HDa := Lib.hid (HDR.out.past hba)
        rw [hwa]
        clear hwa
        clear fz cz
        by_cases hk119 : k + 1 ≤ 120
        · have hk119i : (k : Int) + 1 ≤ 120 := by omega
          obtain ⟨ad2, hAD2, had2, hck2⟩ := HDa.out.int_at (discL_get rate (show k + 1 < 121 by omega))
          injection hAD2 with hAD2; subst hAD2
          rw [show ad.add (k + 1) = ⟨ad.block, ad.off + (k + 1), none⟩ from by simp [Addr.add]] at hck2
          have q0 := fun y : Past wa => Past.cell (p := ⟨w.heap.size, 0, none⟩) (v := .int .i64 first) (HBa.out.cell 0) y
          have q1 := fun y : Past wa => Past.cell hck2 y
          have hcT := Lib.hid (Blk.agg_past (cs := [.int .i64 first, .slice A n cap]) HBa.out 0 [.int .i64 first, .slice A n cap] rfl)
          have QC := Lib.hid (show (lv xs k - lv xs (k + 1)) * disc rate (k + 1) = cC xs rate k from rfl)
          have hc2 := QC.out
          obtain ⟨g1, g2⟩ := HCb.out k
          obtain ⟨g3, g4⟩ := HD.out (k + 1)
          have HEk := Lib.hid (show (first + (k : Int) - first).toNat = k by omega)
          go_wp2
          refine wp_region_past_tail 13 (by kernel_rfl) (by kernel_rfl) ?_
          simp only [List.take_succ_cons, List.take_zero, List.drop_succ_cons, List.drop_zero]
          repeat (first | (go_big_quiet_want; (first | (refine quiet_load_agg 26 _ rfl ⟨w.heap.size, 0, none⟩ rfl [.int .i64 first, .slice A n cap] hcT.out _ Tryz.underlying26 rfl Tab.size ?_)); go_simp; go_big_quiet_on) | go_big_quiet_step ((go_at_call 111; exact past_call ((impl_LifeTable_deaths_any first A n cap xs (first + (k : Int)) _ (HTa.out.at_past _) HTab.out ⟨by omega, by omega⟩).mono (by rw [HEk.out]; exact fun _ _ h => h)))))
          refine wpQuiet_nil ?_
          rintro _ ⟨z, rfl⟩
          clear q0 q1 hcT
          have HCz := Lib.hid (HCa.out.below' z.2)
          have HBz := Lib.hid (HBa.out.below' z.2)
          have HTz := Lib.hid (HTa.out.past z.2)
          have HSz := Lib.hid (HSa.out.below' z.2)
          have HOz := Lib.hid (HOa.out.below' z.2)
          have HDz := Lib.hid (HDa.out.past z.2)
          have hbz : Below w1.heap.size w1 z.1 := hba.trans (z.2.mono hba.size)
          have fz : z.1.frozen? ⟨wr.heap.size, 2, none⟩ = false := HCz.out.frozen 2
          have cz : z.1.cell? ⟨wr.heap.size, 2, none⟩ = some (.int .i64 0) := HCz.out.cell 2
          go_upto_region 12 with (fail)
          clear hc2
          obtain ⟨wv, hwv⟩ : ∃ wv, z.1.setCell ⟨wr.heap.size, 2, none⟩ (.int .i64 (cC xs rate k)) = wv := ⟨_, rfl⟩
          have HCv : Hid (Blk wv wr.heap.size 170 #[.int .i64 (dC xs rate k), .int .i64 0, .int .i64 (cC xs rate k), .int .i64 0]) := Lib.hid (by have h9 := HCz.out.set_ 2 (.int .i64 (cC xs rate k)); rw [hwv] at h9; exact h9)
          have HBv := Lib.hid (HBz.out.far (p := ⟨wr.heap.size, 2, none⟩) (by show w.heap.size ≠ wr.heap.size; omega) (.int .i64 (cC xs rate k))); rw [hwv] at HBv
          have HSv := Lib.hid (HSz.out.far (p := ⟨wr.heap.size, 2, none⟩) (by show (w1.heap.size + 1) ≠ wr.heap.size; omega) (.int .i64 (cC xs rate k))); rw [hwv] at HSv
          have HOv := Lib.hid (HOz.out.far (p := ⟨wr.heap.size, 2, none⟩) (by show w1.heap.size ≠ wr.heap.size; omega) (.int .i64 (cC xs rate k))); rw [hwv] at HOv
          have hbv := hbz.setCell (p := ⟨wr.heap.size, 2, none⟩) (by show w1.heap.size ≤ wr.heap.size; omega) (.int .i64 (cC xs rate k)); rw [hwv] at hbv
          have HTv := Lib.hid (HT1.out.past hbv)
          have HDv := Lib.hid (HDR.out.past hbv)
          rw [hwv]
          clear hwv
          clear fz cz
          have s1 : wv.cell? ⟨w1.heap.size + 1, 1, none⟩ = some (.int .i64 (nC xs rate (k + 1))) := HSv.out.cell 1
          have c0 : wv.cell? ⟨wr.heap.size, 0, none⟩ = some (.int .i64 (dC xs rate k)) := HCv.out.cell 0
          have sf : wv.frozen? ⟨w1.heap.size + 1, 1, none⟩ = false := HSv.out.frozen 1
          obtain ⟨n1, n2⟩ := HNb.out (k + 1)
          obtain ⟨n3, n4⟩ := HD.out (k + 1)
          have hns : nC xs rate (k + 1) + dC xs rate k = nC xs rate k := by rw [nC_step HTab.out k]; omega
          go_upto_region 13 with (fail)
          have HNS := Lib.hid hns; clear hns
          obtain ⟨we, hwe⟩ : ∃ we, wv.setCell ⟨(w1.heap.size + 1), 1, none⟩ (.int .i64 (nC xs rate k)) = we := ⟨_, rfl⟩
          have HCe := Lib.hid (HCv.out.far (p := ⟨(w1.heap.size + 1), 1, none⟩) (by show wr.heap.size ≠ (w1.heap.size + 1); omega) (.int .i64 (nC xs rate k))); rw [hwe] at HCe
          have HBe := Lib.hid (HBv.out.far (p := ⟨(w1.heap.size + 1), 1, none⟩) (by show w.heap.size ≠ (w1.heap.size + 1); omega) (.int .i64 (nC xs rate k))); rw [hwe] at HBe
          have HSe : Hid (Blk we (w1.heap.size + 1) 170 #[.int .i64 0, .int .i64 (nC xs rate k), .int .i64 0, .int .i64 (mC xs rate (k + 1))]) := Lib.hid (by have h9 := HSv.out.set_ 1 (.int .i64 (nC xs rate k)); rw [hwe] at h9; exact h9)
          have HOe := Lib.hid (HOv.out.far (p := ⟨(w1.heap.size + 1), 1, none⟩) (by show w1.heap.size ≠ (w1.heap.size + 1); omega) (.int .i64 (nC xs rate k))); rw [hwe] at HOe
          have hbe := hbv.setCell (p := ⟨(w1.heap.size + 1), 1, none⟩) (by show w1.heap.size ≤ (w1.heap.size + 1); omega) (.int .i64 (nC xs rate k)); rw [hwe] at hbe
          have HTe := Lib.hid (HT1.out.past hbe)
          have HDe := Lib.hid (HDR.out.past hbe)
          rw [hwe]
          clear hwe
          clear s1 c0 sf
          have s3 : we.cell? ⟨w1.heap.size + 1, 3, none⟩ = some (.int .i64 (mC xs rate (k + 1))) := HSe.out.cell 3
          have c2 : we.cell? ⟨wr.heap.size, 2, none⟩ = some (.int .i64 (cC xs rate k)) := HCe.out.cell 2
          have sf : we.frozen? ⟨w1.heap.size + 1, 3, none⟩ = false := HSe.out.frozen 3
          obtain ⟨m1, m2⟩ := HMb.out (k + 1)
          obtain ⟨m3, m4⟩ := HCb.out k
          have hms : mC xs rate (k + 1) + cC xs rate k = mC xs rate k := by rw [mC_step HTab.out k]; omega
          go_upto_region 14 with (fail)
          have HMS := Lib.hid hms; clear hms
          obtain ⟨wf, hwf⟩ : ∃ wf, we.setCell ⟨(w1.heap.size + 1), 3, none⟩ (.int .i64 (mC xs rate k)) = wf := ⟨_, rfl⟩
          have HCf := Lib.hid (HCe.out.far (p := ⟨(w1.heap.size + 1), 3, none⟩) (by show wr.heap.size ≠ (w1.heap.size + 1); omega) (.int .i64 (mC xs rate k))); rw [hwf] at HCf
          have HBf := Lib.hid (HBe.out.far (p := ⟨(w1.heap.size + 1), 3, none⟩) (by show w.heap.size ≠ (w1.heap.size + 1); omega) (.int .i64 (mC xs rate k))); rw [hwf] at HBf
          have HSf : Hid (Blk wf (w1.heap.size + 1) 170 #[.int .i64 0, .int .i64 (nC xs rate k), .int .i64 0, .int .i64 (mC xs rate k)]) := Lib.hid (by have h9 := HSe.out.set_ 3 (.int .i64 (mC xs rate k)); rw [hwf] at h9; exact h9)
          have HOf := Lib.hid (HOe.out.far (p := ⟨(w1.heap.size + 1), 3, none⟩) (by show w1.heap.size ≠ (w1.heap.size + 1); omega) (.int .i64 (mC xs rate k))); rw [hwf] at HOf
          have hbf := hbe.setCell (p := ⟨(w1.heap.size + 1), 3, none⟩) (by show w1.heap.size ≤ (w1.heap.size + 1); omega) (.int .i64 (mC xs rate k)); rw [hwf] at hbf
          have HTf := Lib.hid (HT1.out.past hbf)
          have HDf := Lib.hid (HDR.out.past hbf)
          rw [hwf]
          clear hwf
          clear s3 c2 sf
          have s1 : wf.cell? ⟨w1.heap.size + 1, 1, none⟩ = some (.int .i64 (nC xs rate k)) := HSf.out.cell 1
          have s3 : wf.cell? ⟨w1.heap.size + 1, 3, none⟩ = some (.int .i64 (mC xs rate k)) := HSf.out.cell 3
          have e1 : wf.cell? ⟨wr.heap.size, 1, none⟩ = some (.int .i64 0) := HCf.out.cell 1
          have e3 : wf.cell? ⟨wr.heap.size, 3, none⟩ = some (.int .i64 0) := HCf.out.cell 3
          have fz1 : wf.frozen? ⟨wr.heap.size, 1, none⟩ = false := HCf.out.frozen 1
          have fz3 : wf.frozen? ⟨wr.heap.size, 3, none⟩ = false := HCf.out.frozen 3
          have hne : ¬ w1.heap.size + 1 = wr.heap.size := by omega
          have hne2 : ¬ wr.heap.size = w1.heap.size + 1 := by omega
          go_region
          obtain ⟨wg, hwg⟩ : ∃ wg, ((wf.setCell ⟨wr.heap.size, 1, none⟩ (.int .i64 (nC xs rate k))).setCell ⟨wr.heap.size, 3, none⟩ (.int .i64 (mC xs rate k))).drew = wg := ⟨_, rfl⟩
          have HCg : Hid (Blk wg wr.heap.size 170 (colRow xs rate k).toArray) := Lib.hid (by have h9 := ((HCf.out.set_ 1 (.int .i64 (nC xs rate k))).set_ 3 (.int .i64 (mC xs rate k))).drew; rw [hwg] at h9; exact h9)
          have HSg := Lib.hid (((HSf.out.far (p := ⟨wr.heap.size, 1, none⟩) (by show w1.heap.size + 1 ≠ wr.heap.size; omega) (.int .i64 (nC xs rate k))).far (p := ⟨wr.heap.size, 3, none⟩) (by show w1.heap.size + 1 ≠ wr.heap.size; omega) (.int .i64 (mC xs rate k))).drew); rw [hwg] at HSg
          have HOg := Lib.hid (((HOf.out.far (p := ⟨wr.heap.size, 1, none⟩) (by show w1.heap.size ≠ wr.heap.size; omega) (.int .i64 (nC xs rate k))).far (p := ⟨wr.heap.size, 3, none⟩) (by show w1.heap.size ≠ wr.heap.size; omega) (.int .i64 (mC xs rate k))).drew); rw [hwg] at HOg
          have hbg := ((hbf.setCell (p := ⟨wr.heap.size, 1, none⟩) (by show w1.heap.size ≤ wr.heap.size; omega) (.int .i64 (nC xs rate k))).setCell (p := ⟨wr.heap.size, 3, none⟩) (by show w1.heap.size ≤ wr.heap.size; omega) (.int .i64 (mC xs rate k))).drew; rw [hwg] at hbg
          rw [hwg]
          clear hwg s1 s3 e1 e3 fz1 fz3
          have hcC := Lib.hid (Blk.agg (cs := colRow xs rate k) HCg.out 0 (colRow xs rate k) rfl)
          have hfit : k * 4 + (colRow xs rate k).length ≤ cs.size := by rw [Hcs.out]; show k * 4 + 4 ≤ top * 4; omega
          have hsg := hbg.size
          have H1c : Hid (∀ v ∈ colRow xs rate k, v.oneCell' = true) := Lib.hid (by simp [Value.oneCell'])
          go_wp2_with (first | (refine wpList_load_agg rfl 170 _ rfl ⟨wr.heap.size, 0, none⟩ rfl (colRow xs rate k) hcC.out _ Tryz.underlying170 rfl Columns.size ?_) | (refine wpList_store_agg rfl 170 _ _ rfl w1.heap.size (k * 4) (colRow xs rate k) rfl rfl 170 cs HOg.out Columns.size hfit H1c.out ?_))
          intro w9 hcs9 hg9 hs9
          have HO9 := Lib.hid hcs9; clear hcs9
          have HS9 := Lib.hid (HSg.out.grown hg9 (by intro e; injection e with e; omega))
          have hb9 : Below w1.heap.size w1 w9 := hbg.trans (below_grown hg9 (by omega))
          clear hg9 hs9
          go_wp2
          go_roundw
          case rel => exact ⟨k, by omega, by go_num, ⟨_, HO9.out, by rw [putAt_size hfit]; exact Hcs.out, FromUp.step HUp.out Hcs.out hkt⟩, HS9.out, hb9⟩
          case measure => simp [intOf] <;> omega
        have hk119i : ¬ (k : Int) + 1 ≤ 120 := by omega
        have hc0 : cC xs rate k = 0 := cC_zero HTab.out k (by have := HTab.out.len1; omega)
        have HCx : Hid (Blk wa wr.heap.size 170 #[.int .i64 (dC xs rate k), .int .i64 0, .int .i64 (cC xs rate k), .int .i64 0]) := Lib.hid (by rw [hc0]; exact HCa.out)
        clear HCa hc0
        have HCa := HCx
        clear HCx
        go_upto_region 12 with (fail)
        have s1 : wa.cell? ⟨w1.heap.size + 1, 1, none⟩ = some (.int .i64 (nC xs rate (k + 1))) := HSa.out.cell 1
        have c0 : wa.cell? ⟨wr.heap.size, 0, none⟩ = some (.int .i64 (dC xs rate k)) := HCa.out.cell 0
        have sf : wa.frozen? ⟨w1.heap.size + 1, 1, none⟩ = false := HSa.out.frozen 1
        obtain ⟨n1, n2⟩ := HNb.out (k + 1)
        obtain ⟨n3, n4⟩ := HD.out (k + 1)
        have hns : nC xs rate (k + 1) + dC xs rate k = nC xs rate k := by rw [nC_step HTab.out k]; omega
        go_upto_region 13 with (fail)
        have HNS := Lib.hid hns; clear hns
        obtain ⟨we, hwe⟩ : ∃ we, wa.setCell ⟨(w1.heap.size + 1), 1, none⟩ (.int .i64 (nC xs rate k)) = we := ⟨_, rfl⟩
        have HCe := Lib.hid (HCa.out.far (p := ⟨(w1.heap.size + 1), 1, none⟩) (by show wr.heap.size ≠ (w1.heap.size + 1); omega) (.int .i64 (nC xs rate k))); rw [hwe] at HCe
        have HBe := Lib.hid (HBa.out.far (p := ⟨(w1.heap.size + 1), 1, none⟩) (by show w.heap.size ≠ (w1.heap.size + 1); omega) (.int .i64 (nC xs rate k))); rw [hwe] at HBe
        have HSe : Hid (Blk we (w1.heap.size + 1) 170 #[.int .i64 0, .int .i64 (nC xs rate k), .int .i64 0, .int .i64 (mC xs rate (k + 1))]) := Lib.hid (by have h9 := HSa.out.set_ 1 (.int .i64 (nC xs rate k)); rw [hwe] at h9; exact h9)
        have HOe := Lib.hid (HOa.out.far (p := ⟨(w1.heap.size + 1), 1, none⟩) (by show w1.heap.size ≠ (w1.heap.size + 1); omega) (.int .i64 (nC xs rate k))); rw [hwe] at HOe
        have hbe := hba.setCell (p := ⟨(w1.heap.size + 1), 1, none⟩) (by show w1.heap.size ≤ (w1.heap.size + 1); omega) (.int .i64 (nC xs rate k)); rw [hwe] at hbe
        have HTe := Lib.hid (HT1.out.past hbe)
        have HDe := Lib.hid (HDR.out.past hbe)
        rw [hwe]
        clear hwe
        clear s1 c0 sf
        have s3 : we.cell? ⟨w1.heap.size + 1, 3, none⟩ = some (.int .i64 (mC xs rate (k + 1))) := HSe.out.cell 3
        have c2 : we.cell? ⟨wr.heap.size, 2, none⟩ = some (.int .i64 (cC xs rate k)) := HCe.out.cell 2
        have sf : we.frozen? ⟨w1.heap.size + 1, 3, none⟩ = false := HSe.out.frozen 3
        obtain ⟨m1, m2⟩ := HMb.out (k + 1)
        obtain ⟨m3, m4⟩ := HCb.out k
        have hms : mC xs rate (k + 1) + cC xs rate k = mC xs rate k := by rw [mC_step HTab.out k]; omega
        go_upto_region 14 with (fail)
        have HMS := Lib.hid hms; clear hms
        obtain ⟨wf, hwf⟩ : ∃ wf, we.setCell ⟨(w1.heap.size + 1), 3, none⟩ (.int .i64 (mC xs rate k)) = wf := ⟨_, rfl⟩
        have HCf := Lib.hid (HCe.out.far (p := ⟨(w1.heap.size + 1), 3, none⟩) (by show wr.heap.size ≠ (w1.heap.size + 1); omega) (.int .i64 (mC xs rate k))); rw [hwf] at HCf
        have HBf := Lib.hid (HBe.out.far (p := ⟨(w1.heap.size + 1), 3, none⟩) (by show w.heap.size ≠ (w1.heap.size + 1); omega) (.int .i64 (mC xs rate k))); rw [hwf] at HBf
        have HSf : Hid (Blk wf (w1.heap.size + 1) 170 #[.int .i64 0, .int .i64 (nC xs rate k), .int .i64 0, .int .i64 (mC xs rate k)]) := Lib.hid (by have h9 := HSe.out.set_ 3 (.int .i64 (mC xs rate k)); rw [hwf] at h9; exact h9)
        have HOf := Lib.hid (HOe.out.far (p := ⟨(w1.heap.size + 1), 3, none⟩) (by show w1.heap.size ≠ (w1.heap.size + 1); omega) (.int .i64 (mC xs rate k))); rw [hwf] at HOf
        have hbf := hbe.setCell (p := ⟨(w1.heap.size + 1), 3, none⟩) (by show w1.heap.size ≤ (w1.heap.size + 1); omega) (.int .i64 (mC xs rate k)); rw [hwf] at hbf
        have HTf := Lib.hid (HT1.out.past hbf)
        have HDf := Lib.hid (HDR.out.past hbf)
        rw [hwf]
        clear hwf
        clear s3 c2 sf
        have s1 : wf.cell? ⟨w1.heap.size + 1, 1, none⟩ = some (.int .i64 (nC xs rate k)) := HSf.out.cell 1
        have s3 : wf.cell? ⟨w1.heap.size + 1, 3, none⟩ = some (.int .i64 (mC xs rate k)) := HSf.out.cell 3
        have e1 : wf.cell? ⟨wr.heap.size, 1, none⟩ = some (.int .i64 0) := HCf.out.cell 1
        have e3 : wf.cell? ⟨wr.heap.size, 3, none⟩ = some (.int .i64 0) := HCf.out.cell 3
        have fz1 : wf.frozen? ⟨wr.heap.size, 1, none⟩ = false := HCf.out.frozen 1
        have fz3 : wf.frozen? ⟨wr.heap.size, 3, none⟩ = false := HCf.out.frozen 3
        have hne : ¬ w1.heap.size + 1 = wr.heap.size := by omega
        have hne2 : ¬ wr.heap.size = w1.heap.size + 1 := by omega
        go_region
        obtain ⟨wg, hwg⟩ : ∃ wg, ((wf.setCell ⟨wr.heap.size, 1, none⟩ (.int .i64 (nC xs rate k))).setCell ⟨wr.heap.size, 3, none⟩ (.int .i64 (mC xs rate k))).drew = wg := ⟨_, rfl⟩
        have HCg : Hid (Blk wg wr.heap.size 170 (colRow xs rate k).toArray) := Lib.hid (by have h9 := ((HCf.out.set_ 1 (.int .i64 (nC xs rate k))).set_ 3 (.int .i64 (mC xs rate k))).drew; rw [hwg] at h9; exact h9)
        have HSg := Lib.hid (((HSf.out.far (p := ⟨wr.heap.size, 1, none⟩) (by show w1.heap.size + 1 ≠ wr.heap.size; omega) (.int .i64 (nC xs rate k))).far (p := ⟨wr.heap.size, 3, none⟩) (by show w1.heap.size + 1 ≠ wr.heap.size; omega) (.int .i64 (mC xs rate k))).drew); rw [hwg] at HSg
        have HOg := Lib.hid (((HOf.out.far (p := ⟨wr.heap.size, 1, none⟩) (by show w1.heap.size ≠ wr.heap.size; omega) (.int .i64 (nC xs rate k))).far (p := ⟨wr.heap.size, 3, none⟩) (by show w1.heap.size ≠ wr.heap.size; omega) (.int .i64 (mC xs rate k))).drew); rw [hwg] at HOg
        have hbg := ((hbf.setCell (p := ⟨wr.heap.size, 1, none⟩) (by show w1.heap.size ≤ wr.heap.size; omega) (.int .i64 (nC xs rate k))).setCell (p := ⟨wr.heap.size, 3, none⟩) (by show w1.heap.size ≤ wr.heap.size; omega) (.int .i64 (mC xs rate k))).drew; rw [hwg] at hbg
        rw [hwg]
        clear hwg s1 s3 e1 e3 fz1 fz3
        have hcC := Lib.hid (Blk.agg (cs := colRow xs rate k) HCg.out 0 (colRow xs rate k) rfl)
        have hfit : k * 4 + (colRow xs rate k).length ≤ cs.size := by rw [Hcs.out]; show k * 4 + 4 ≤ top * 4; omega
        have hsg := hbg.size
        have H1c : Hid (∀ v ∈ colRow xs rate k, v.oneCell' = true) := Lib.hid (by simp [Value.oneCell'])
        go_wp2_with (first | (refine wpList_load_agg rfl 170 _ rfl ⟨wr.heap.size, 0, none⟩ rfl (colRow xs rate k) hcC.out _ Tryz.underlying170 rfl Columns.size ?_) | (refine wpList_store_agg rfl 170 _ _ rfl w1.heap.size (k * 4) (colRow xs rate k) rfl rfl 170 cs HOg.out Columns.size hfit H1c.out ?_))
        intro w9 hcs9 hg9 hs9
        have HO9 := Lib.hid hcs9; clear hcs9
        have HS9 := Lib.hid (HSg.out.grown hg9 (by intro e; injection e with e; omega))
        have hb9 : Below w1.heap.size w1 w9 := hbg.trans (below_grown hg9 (by omega))
        clear hg9 hs9
        go_wp2
        go_roundw
        case rel => exact ⟨k, by omega, by go_num, ⟨_, HO9.out, by rw [putAt_size hfit]; exact Hcs.out, FromUp.step HUp.out Hcs.out hkt⟩, HS9.out, hb9⟩
        case measure => simp [intOf] <;> omega
      have hk120i : ¬ (k : Int) ≤ 120 := by omega
      have hk119i : ¬ (k : Int) + 1 ≤ 120 := by omega
      have hd0 : dC xs rate k = 0 := dC_zero HTab.out k (by have := HTab.out.len1; omega)
      have hc0 : cC xs rate k = 0 := cC_zero HTab.out k (by have := HTab.out.len1; omega)
      have HCx : Hid (Blk wR wr.heap.size 170 #[.int .i64 (dC xs rate k), .int .i64 0, .int .i64 (cC xs rate k), .int .i64 0]) := Lib.hid (by rw [hc0, hd0]; exact HCr.out)
      clear HCr hc0 hd0
      have HCr := HCx
      clear HCx
      go_upto_region 12 with (fail)
      rw [HWR.out]
      have s1 : wR.cell? ⟨w1.heap.size + 1, 1, none⟩ = some (.int .i64 (nC xs rate (k + 1))) := HSr.out.cell 1
      have c0 : wR.cell? ⟨wr.heap.size, 0, none⟩ = some (.int .i64 (dC xs rate k)) := HCr.out.cell 0
      have sf : wR.frozen? ⟨w1.heap.size + 1, 1, none⟩ = false := HSr.out.frozen 1
      obtain ⟨n1, n2⟩ := HNb.out (k + 1)
      obtain ⟨n3, n4⟩ := HD.out (k + 1)
      have hns : nC xs rate (k + 1) + dC xs rate k = nC xs rate k := by rw [nC_step HTab.out k]; omega
      go_upto_region 13 with (fail)
      have HNS := Lib.hid hns; clear hns
      obtain ⟨we, hwe⟩ : ∃ we, wR.setCell ⟨(w1.heap.size + 1), 1, none⟩ (.int .i64 (nC xs rate k)) = we := ⟨_, rfl⟩
      have HCe := Lib.hid (HCr.out.far (p := ⟨(w1.heap.size + 1), 1, none⟩) (by show wr.heap.size ≠ (w1.heap.size + 1); omega) (.int .i64 (nC xs rate k))); rw [hwe] at HCe
      have HBe := Lib.hid (HBr.out.far (p := ⟨(w1.heap.size + 1), 1, none⟩) (by show w.heap.size ≠ (w1.heap.size + 1); omega) (.int .i64 (nC xs rate k))); rw [hwe] at HBe
      have HSe : Hid (Blk we (w1.heap.size + 1) 170 #[.int .i64 0, .int .i64 (nC xs rate k), .int .i64 0, .int .i64 (mC xs rate (k + 1))]) := Lib.hid (by have h9 := HSr.out.set_ 1 (.int .i64 (nC xs rate k)); rw [hwe] at h9; exact h9)
      have HOe := Lib.hid (HOr.out.far (p := ⟨(w1.heap.size + 1), 1, none⟩) (by show w1.heap.size ≠ (w1.heap.size + 1); omega) (.int .i64 (nC xs rate k))); rw [hwe] at HOe
      have hbe := hbr.setCell (p := ⟨(w1.heap.size + 1), 1, none⟩) (by show w1.heap.size ≤ (w1.heap.size + 1); omega) (.int .i64 (nC xs rate k)); rw [hwe] at hbe
      have HTe := Lib.hid (HT1.out.past hbe)
      have HDe := Lib.hid (HDR.out.past hbe)
      rw [hwe]
      clear hwe
      clear s1 c0 sf
      have s3 : we.cell? ⟨w1.heap.size + 1, 3, none⟩ = some (.int .i64 (mC xs rate (k + 1))) := HSe.out.cell 3
      have c2 : we.cell? ⟨wr.heap.size, 2, none⟩ = some (.int .i64 (cC xs rate k)) := HCe.out.cell 2
      have sf : we.frozen? ⟨w1.heap.size + 1, 3, none⟩ = false := HSe.out.frozen 3
      obtain ⟨m1, m2⟩ := HMb.out (k + 1)
      obtain ⟨m3, m4⟩ := HCb.out k
      have hms : mC xs rate (k + 1) + cC xs rate k = mC xs rate k := by rw [mC_step HTab.out k]; omega
      go_upto_region 14 with (fail)
      have HMS := Lib.hid hms; clear hms
      obtain ⟨wf, hwf⟩ : ∃ wf, we.setCell ⟨(w1.heap.size + 1), 3, none⟩ (.int .i64 (mC xs rate k)) = wf := ⟨_, rfl⟩
      have HCf := Lib.hid (HCe.out.far (p := ⟨(w1.heap.size + 1), 3, none⟩) (by show wr.heap.size ≠ (w1.heap.size + 1); omega) (.int .i64 (mC xs rate k))); rw [hwf] at HCf
      have HBf := Lib.hid (HBe.out.far (p := ⟨(w1.heap.size + 1), 3, none⟩) (by show w.heap.size ≠ (w1.heap.size + 1); omega) (.int .i64 (mC xs rate k))); rw [hwf] at HBf
      have HSf : Hid (Blk wf (w1.heap.size + 1) 170 #[.int .i64 0, .int .i64 (nC xs rate k), .int .i64 0, .int .i64 (mC xs rate k)]) := Lib.hid (by have h9 := HSe.out.set_ 3 (.int .i64 (mC xs rate k)); rw [hwf] at h9; exact h9)
      have HOf := Lib.hid (HOe.out.far (p := ⟨(w1.heap.size + 1), 3, none⟩) (by show w1.heap.size ≠ (w1.heap.size + 1); omega) (.int .i64 (mC xs rate k))); rw [hwf] at HOf
      have hbf := hbe.setCell (p := ⟨(w1.heap.size + 1), 3, none⟩) (by show w1.heap.size ≤ (w1.heap.size + 1); omega) (.int .i64 (mC xs rate k)); rw [hwf] at hbf
      have HTf := Lib.hid (HT1.out.past hbf)
      have HDf := Lib.hid (HDR.out.past hbf)
      rw [hwf]
      clear hwf
      clear s3 c2 sf
      have s1 : wf.cell? ⟨w1.heap.size + 1, 1, none⟩ = some (.int .i64 (nC xs rate k)) := HSf.out.cell 1
      have s3 : wf.cell? ⟨w1.heap.size + 1, 3, none⟩ = some (.int .i64 (mC xs rate k)) := HSf.out.cell 3
      have e1 : wf.cell? ⟨wr.heap.size, 1, none⟩ = some (.int .i64 0) := HCf.out.cell 1
      have e3 : wf.cell? ⟨wr.heap.size, 3, none⟩ = some (.int .i64 0) := HCf.out.cell 3
      have fz1 : wf.frozen? ⟨wr.heap.size, 1, none⟩ = false := HCf.out.frozen 1
      have fz3 : wf.frozen? ⟨wr.heap.size, 3, none⟩ = false := HCf.out.frozen 3
      have hne : ¬ w1.heap.size + 1 = wr.heap.size := by omega
      have hne2 : ¬ wr.heap.size = w1.heap.size + 1 := by omega
      go_region
      obtain ⟨wg, hwg⟩ : ∃ wg, ((wf.setCell ⟨wr.heap.size, 1, none⟩ (.int .i64 (nC xs rate k))).setCell ⟨wr.heap.size, 3, none⟩ (.int .i64 (mC xs rate k))).drew = wg := ⟨_, rfl⟩
      have HCg : Hid (Blk wg wr.heap.size 170 (colRow xs rate k).toArray) := Lib.hid (by have h9 := ((HCf.out.set_ 1 (.int .i64 (nC xs rate k))).set_ 3 (.int .i64 (mC xs rate k))).drew; rw [hwg] at h9; exact h9)
      have HSg := Lib.hid (((HSf.out.far (p := ⟨wr.heap.size, 1, none⟩) (by show w1.heap.size + 1 ≠ wr.heap.size; omega) (.int .i64 (nC xs rate k))).far (p := ⟨wr.heap.size, 3, none⟩) (by show w1.heap.size + 1 ≠ wr.heap.size; omega) (.int .i64 (mC xs rate k))).drew); rw [hwg] at HSg
      have HOg := Lib.hid (((HOf.out.far (p := ⟨wr.heap.size, 1, none⟩) (by show w1.heap.size ≠ wr.heap.size; omega) (.int .i64 (nC xs rate k))).far (p := ⟨wr.heap.size, 3, none⟩) (by show w1.heap.size ≠ wr.heap.size; omega) (.int .i64 (mC xs rate k))).drew); rw [hwg] at HOg
      have hbg := ((hbf.setCell (p := ⟨wr.heap.size, 1, none⟩) (by show w1.heap.size ≤ wr.heap.size; omega) (.int .i64 (nC xs rate k))).setCell (p := ⟨wr.heap.size, 3, none⟩) (by show w1.heap.size ≤ wr.heap.size; omega) (.int .i64 (mC xs rate k))).drew; rw [hwg] at hbg
      rw [hwg]
      clear hwg s1 s3 e1 e3 fz1 fz3
      have hcC := Lib.hid (Blk.agg (cs := colRow xs rate k) HCg.out 0 (colRow xs rate k) rfl)
      have hfit : k * 4 + (colRow xs rate k).length ≤ cs.size := by rw [Hcs.out]; show k * 4 + 4 ≤ top * 4; omega
      have hsg := hbg.size
      have H1c : Hid (∀ v ∈ colRow xs rate k, v.oneCell' = true) := Lib.hid (by simp [Value.oneCell'])
      go_wp2_with (first | (refine wpList_load_agg rfl 170 _ rfl ⟨wr.heap.size, 0, none⟩ rfl (colRow xs rate k) hcC.out _ Tryz.underlying170 rfl Columns.size ?_) | (refine wpList_store_agg rfl 170 _ _ rfl w1.heap.size (k * 4) (colRow xs rate k) rfl rfl 170 cs HOg.out Columns.size hfit H1c.out ?_))
      intro w9 hcs9 hg9 hs9
      have HO9 := Lib.hid hcs9; clear hcs9
      have HS9 := Lib.hid (HSg.out.grown hg9 (by intro e; injection e with e; omega))
      have hb9 : Below w1.heap.size w1 w9 := hbg.trans (below_grown hg9 (by omega))
      clear hg9 hs9
      go_wp2
      go_roundw
      case rel => exact ⟨k, by omega, by go_num, ⟨_, HO9.out, by rw [putAt_size hfit]; exact Hcs.out, FromUp.step HUp.out Hcs.out hkt⟩, HS9.out, hb9⟩
      case measure => simp [intOf] <;> omega
end Go.Proofs.YtbjdbpdgacfcpaaGreat
end
