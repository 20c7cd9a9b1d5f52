/- Parts of a proof, one after another: Life3, SickP, SickW, TabT. No condition. -/
import Derived.Test.YtkdfdbcpbgganaaGreatDoorK1
import Derived.Test.YtkdfdbcpbgganaaGreatDoorK2
import Derived.Test.YtkdfdbcpbgganaaGreatDoorK7
import Derived.Test.YtkdfdbcpbgganaaGreatDoorK8
import Derived.Deep.DeepCutAuto
import Derived.Deep.RegionHeld3
/- Sums of columns, values and premiums of assurances, codes: the reference's contracts. -/
section
namespace Go.Proofs.YtkdfdbcpbgganaaGreatDoor
open Go.RowKit Go.BigFrame

theorem Bas.size : (Tryz.prog.info? 40).map (·.size) = some 3 := by kernel_rfl


set_option maxHeartbeats 2000000 in
theorem spec_l05N_any (first : Int) (A : Option Addr) (n cap : Nat) (xs : List Int) (rate age : Int) (w : World) (hT : LiesT w A n xs) (T : TabOk first xs) (hr : 0 ≤ rate ∧ rate ≤ 200) (ha : first ≤ age ∧ age ≤ 500) :
    Calls Tryz.prog 40 #[.agg #[.int .i64 first, .slice A n cap], .int .i64 rate, .int .i64 age] w fun e w' => e = .returned (.int .i64 (nC xs rate (age - first).toNat)) ∧ Below w.heap.size w w' := by
  have hbw : Below w.heap.size w (w.alloc (.cells #[.int .i64 first, .slice A n cap] 26)) := (Below.refl _ w).alloc (Nat.le_refl _) _
  have HB := Lib.hid (Blk.new w 26 #[.int .i64 first, .slice A n cap])
  have HT := Lib.hid (hT.past hbw); clear hT
  have hn := HT.out.small
  have HL := Lib.hid HT.out.len
  obtain ⟨a1, a2⟩ := ha
  obtain ⟨r1, r2⟩ := hr
  obtain ⟨k, hk⟩ := Int.eq_ofNat_of_zero_le (show 0 ≤ age - first by omega)
  have HK := Lib.hid hk; clear hk
  have HE := Lib.hid (show (age - first).toNat = k by have := HK.out; omega)
  rw [HE.out]
  have T1 := T.first0; have T2 := T.first1; have T3 := T.len1; have T4 := T.len0
  rw [HL.out] at T3 T4
  have HTab := Lib.hid T; clear T
  have HSum := Lib.hid (fun j : Nat => dSumF_bound HTab.out r1 k j)
  have HDk := Lib.hid (dC_bound HTab.out r1 k)
  go_enter Tryz.func40, Tryz.ntmps40
  go_wp2
  go_loopw [7, 8] (fun s x wr => ∃ j : Nat, x = .int .i64 (age + (j : Int)) ∧ s = .int .i64 (sumF (dC xs rate) k j) ∧ (j = 0 ∨ k + j + 1 ≤ n) ∧ Below (w.heap.size + 1) (w.alloc (.cells #[.int .i64 first, .slice A n cap] 26)) wr) (fun _ x _ => (first + (n : Int) - 1 - intOf x).toNat)
  case atStart => exact ⟨0, by go_num, rfl, .inl rfl, Below.refl _ _⟩
  case round =>
    obtain ⟨j, rfl, rfl, hj, hb⟩ := hrel
    have hsz : w.heap.size + 1 ≤ wr.heap.size := by have := hb.size; simpa using this
    have HB1 := Lib.hid (HB.out.below hb (by omega))
    have HT1 := Lib.hid (HT.out.past (hb.mono (by simp)))
    have hc1 := Lib.hid (Blk.agg (cs := [.int .i64 first, .slice A n cap]) HB1.out 0 [.int .i64 first, .slice A n cap] rfl)
    have hj120 : (j : Int) ≤ 120 := by omega
    go_wp2_with (refine wpList_load_agg rfl 26 _ rfl ⟨w.heap.size, 0, none⟩ rfl [.int .i64 first, .slice A n cap] hc1.out _ Tryz.underlying26 rfl Tab.size ?_)
    refine (spec_l03End_any first A n cap _ hn ⟨T1, T2⟩).mono ?_
    rintro e w1 ⟨rfl, hb1⟩
    have hb2 : Below (w.heap.size + 1) (w.alloc (.cells #[.int .i64 first, .slice A n cap] 26)) w1 := hb.trans (hb1.mono hsz)
    have hsz1 : w.heap.size + 1 ≤ w1.heap.size := by have := hb2.size; simpa using this
    by_cases hlt : age + (j : Int) < first + (n : Int) - 1
    · have HB2 := Lib.hid (HB1.out.below' hb1)
      have HT2 := Lib.hid (HT1.out.past hb1)
      have hc2 := Lib.hid (Blk.agg (cs := [.int .i64 first, .slice A n cap]) HB2.out 0 [.int .i64 first, .slice A n cap] rfl)
      have hs0 := HSum.out j
      have hs1 := HSum.out (j + 1)
      have HS1 := Lib.hid (sumF_snoc (dC xs rate) k j)
      have hd0 := HDk.out
      have hm1 : (j : Int) * dC xs rate k ≤ 120 * 1000000000000000 := Int.mul_le_mul hj120 hd0.2 hd0.1 (by omega)
      rw [HS1.out] at hs1
      obtain ⟨b1, b2⟩ := dC_bound HTab.out r1 (k + j)
      obtain ⟨s1, s2⟩ := hs0
      obtain ⟨s3, s4⟩ := hs1
      go_wp2_with (refine wpList_load_agg rfl 26 _ rfl ⟨w.heap.size, 0, none⟩ rfl [.int .i64 first, .slice A n cap] hc2.out _ Tryz.underlying26 rfl Tab.size ?_)
      refine (spec_l05D_any first A n cap xs rate (age + (j : Int)) _ HT2.out HTab.out ⟨r1, r2⟩ ⟨by omega, by omega⟩).mono ?_
      rw [show (age + (j : Int) - first).toNat = k + j by have := HK.out; omega]
      rintro e w2 ⟨rfl, hb3⟩
      go_wp2
      go_roundw
      case rel => exact ⟨j + 1, by go_num, by rw [HS1.out], .inr (by have := HK.out; omega), hb2.trans (hb3.mono hsz1)⟩
      case measure => simp [intOf]; omega
    · have Q := Lib.hid (show sumF (dC xs rate) k j = nC xs rate k from nC_any HTab.out k j (by have := HK.out; have := HL.out; omega))
      go_wp2
      go_ret
      exact ⟨by rw [Q.out]; rfl, hbw.trans (hb2.mono (by omega))⟩


set_option maxHeartbeats 2000000 in
theorem spec_l05M_any (first : Int) (A : Option Addr) (n cap : Nat) (xs : List Int) (rate age : Int) (w : World) (hT : LiesT w A n xs) (T : TabOk first xs) (hr : 0 ≤ rate ∧ rate ≤ 200) (ha : first ≤ age ∧ age ≤ 500) :
    Calls Tryz.prog 162 #[.agg #[.int .i64 first, .slice A n cap], .int .i64 rate, .int .i64 age] w fun e w' => e = .returned (.int .i64 (mC xs rate (age - first).toNat)) ∧ Below w.heap.size w w' := by
  have hbw : Below w.heap.size w (w.alloc (.cells #[.int .i64 first, .slice A n cap] 26)) := (Below.refl _ w).alloc (Nat.le_refl _) _
  have HB := Lib.hid (Blk.new w 26 #[.int .i64 first, .slice A n cap])
  have HT := Lib.hid (hT.past hbw); clear hT
  have hn := HT.out.small
  have HL := Lib.hid HT.out.len
  obtain ⟨a1, a2⟩ := ha
  obtain ⟨r1, r2⟩ := hr
  obtain ⟨k, hk⟩ := Int.eq_ofNat_of_zero_le (show 0 ≤ age - first by omega)
  have HK := Lib.hid hk; clear hk
  have HE := Lib.hid (show (age - first).toNat = k by have := HK.out; omega)
  rw [HE.out]
  have T1 := T.first0; have T2 := T.first1; have T3 := T.len1; have T4 := T.len0
  rw [HL.out] at T3 T4
  have HTab := Lib.hid T; clear T
  have HSum := Lib.hid (fun j : Nat => cSumF_bound HTab.out r1 k j)
  have HDk := Lib.hid (dC_bound HTab.out r1 k)
  go_enter Tryz.func162, Tryz.ntmps162
  go_wp2
  go_loopw [7, 8] (fun s x wr => ∃ j : Nat, x = .int .i64 (age + (j : Int)) ∧ s = .int .i64 (sumF (cC xs rate) k j) ∧ (j = 0 ∨ k + j + 1 ≤ n) ∧ Below (w.heap.size + 1) (w.alloc (.cells #[.int .i64 first, .slice A n cap] 26)) wr) (fun _ x _ => (first + (n : Int) - 1 - intOf x).toNat)
  case atStart => exact ⟨0, by go_num, rfl, .inl rfl, Below.refl _ _⟩
  case round =>
    obtain ⟨j, rfl, rfl, hj, hb⟩ := hrel
    have hsz : w.heap.size + 1 ≤ wr.heap.size := by have := hb.size; simpa using this
    have HB1 := Lib.hid (HB.out.below hb (by omega))
    have HT1 := Lib.hid (HT.out.past (hb.mono (by simp)))
    have hc1 := Lib.hid (Blk.agg (cs := [.int .i64 first, .slice A n cap]) HB1.out 0 [.int .i64 first, .slice A n cap] rfl)
    have hj120 : (j : Int) ≤ 120 := by omega
    go_wp2_with (refine wpList_load_agg rfl 26 _ rfl ⟨w.heap.size, 0, none⟩ rfl [.int .i64 first, .slice A n cap] hc1.out _ Tryz.underlying26 rfl Tab.size ?_)
    refine (spec_l03End_any first A n cap _ hn ⟨T1, T2⟩).mono ?_
    rintro e w1 ⟨rfl, hb1⟩
    have hb2 : Below (w.heap.size + 1) (w.alloc (.cells #[.int .i64 first, .slice A n cap] 26)) w1 := hb.trans (hb1.mono hsz)
    have hsz1 : w.heap.size + 1 ≤ w1.heap.size := by have := hb2.size; simpa using this
    by_cases hlt : age + (j : Int) < first + (n : Int) - 1
    · have HB2 := Lib.hid (HB1.out.below' hb1)
      have HT2 := Lib.hid (HT1.out.past hb1)
      have hc2 := Lib.hid (Blk.agg (cs := [.int .i64 first, .slice A n cap]) HB2.out 0 [.int .i64 first, .slice A n cap] rfl)
      have hs0 := HSum.out j
      have hs1 := HSum.out (j + 1)
      have HS1 := Lib.hid (sumF_snoc (cC xs rate) k j)
      have hd0 := HDk.out
      have hm1 : (j : Int) * dC xs rate k ≤ 120 * 1000000000000000 := Int.mul_le_mul hj120 hd0.2 hd0.1 (by omega)
      rw [HS1.out] at hs1
      obtain ⟨b1, b2⟩ := cC_bound HTab.out r1 (k + j)
      obtain ⟨b3, b4⟩ := dC_bound HTab.out r1 (k + j)
      obtain ⟨b5, b6⟩ := dC_bound HTab.out r1 (k + j + 1)
      obtain ⟨s1, s2⟩ := hs0
      obtain ⟨s3, s4⟩ := hs1
      go_wp2_with (refine wpList_load_agg rfl 26 _ rfl ⟨w.heap.size, 0, none⟩ rfl [.int .i64 first, .slice A n cap] hc2.out _ Tryz.underlying26 rfl Tab.size ?_)
      refine (spec_l05C_any first A n cap xs rate (age + (j : Int)) _ HT2.out HTab.out ⟨r1, r2⟩ ⟨by omega, by omega⟩).mono ?_
      rw [show (age + (j : Int) - first).toNat = k + j by have := HK.out; omega]
      rintro e w2 ⟨rfl, hb3⟩
      go_wp2
      go_roundw
      case rel => exact ⟨j + 1, by go_num, by rw [HS1.out], .inr (by have := HK.out; omega), hb2.trans (hb3.mono hsz1)⟩
      case measure => simp [intOf]; omega
    · have Q := Lib.hid (show sumF (cC xs rate) k j = mC xs rate k from mC_any HTab.out k j (by have := HK.out; have := HL.out; omega))
      go_wp2
      go_ret
      exact ⟨by rw [Q.out]; rfl, hbw.trans (hb2.mono (by omega))⟩


set_option maxHeartbeats 2000000 in
theorem spec_l07Top_any (first : Int) (A : Option Addr) (n cap : Nat) (xs : List Int) (rate kind age yrs : Int) (w : World) (hT : LiesT w A n xs) (T : TabOk first xs) (hr : 0 ≤ rate ∧ rate ≤ 200) (ha : first ≤ age ∧ age ≤ 300) (hy : 0 ≤ yrs ∧ age + yrs ≤ 420) :
    Calls Tryz.prog 142 #[.agg #[.int .i64 first, .slice A n cap], .int .i64 rate, .int .i64 kind, .int .i64 age, .int .i64 yrs] w fun e w' => e = .returned (.int .i64 (topF xs rate kind (age - first).toNat yrs.toNat)) ∧ Below w.heap.size w w' := by
  have hbw : Below w.heap.size w (w.alloc (.cells #[.int .i64 first, .slice A n cap] 26)) := (Below.refl _ w).alloc (Nat.le_refl _) _
  have HB := Lib.hid (Blk.new w 26 #[.int .i64 first, .slice A n cap])
  have HT := Lib.hid (hT.past hbw); clear hT
  have HL := Lib.hid HT.out.len
  obtain ⟨a1, a2⟩ := ha
  obtain ⟨r1, r2⟩ := hr
  obtain ⟨y1, y2⟩ := hy
  obtain ⟨k, hk⟩ := Int.eq_ofNat_of_zero_le (show 0 ≤ age - first by omega)
  obtain ⟨m, hm⟩ := Int.eq_ofNat_of_zero_le y1
  have T1 := T.first0; have T2 := T.first1
  have hE0 : (age - first).toNat = k := by omega
  have hE1 : (age + yrs - first).toNat = k + m := by omega
  have hEm : yrs.toNat = m := by omega
  rw [hE0, hEm]
  clear hk hm hEm
  have HTab := Lib.hid T; clear T
  have hcs := Lib.hid (Blk.agg_past (cs := [.int .i64 first, .slice A n cap]) HB.out 0 [.int .i64 first, .slice A n cap] rfl)
  obtain ⟨b1, b2⟩ := mC_bound HTab.out r1 k
  obtain ⟨b3, b4⟩ := dC_bound HTab.out r1 k
  obtain ⟨b5, b6⟩ := mC_bound HTab.out r1 (k + m)
  obtain ⟨b7, b8⟩ := dC_bound HTab.out r1 (k + m)
  by_cases h0 : kind = 0
  · subst h0
    have Q := Lib.hid (show topF xs rate 0 k m = mC xs rate k by simp [topF])
    go_enter Tryz.func142, Tryz.ntmps142
    go_wp2_with fail
    refine (spec_l05M_any first A n cap xs rate age _ HT.out HTab.out ⟨r1, r2⟩ ⟨by omega, by omega⟩).mono ?_
    rw [hE0]
    rintro e w1 ⟨rfl, hb1⟩
    go_wp2
    go_ret
    exact ⟨by rw [Q.out]; rfl, hbw.trans (hb1.mono (by simp))⟩
  by_cases h1 : kind = 1
  · subst h1
    have Q := Lib.hid (show topF xs rate 1 k m = mC xs rate k - mC xs rate (k + m) by simp [topF])
    go_enter Tryz.func142, Tryz.ntmps142
    go_wp2
    refine wp_region_past (by kernel_rfl) (by kernel_rfl) ?_
    repeat (first | (go_big_quiet_want; (first | (refine quiet_load_agg 26 _ rfl ⟨w.heap.size, 0, none⟩ rfl [.int .i64 first, .slice A n cap] hcs.out _ Tryz.underlying26 rfl Tab.size ?_)); go_simp; go_big_quiet_on) | go_big_quiet_step ((go_at_call 162; exact past_call (spec_l05M_any first A n cap xs rate _ _ (HT.out.at_past _) HTab.out ⟨by omega, by omega⟩ ⟨by omega, by omega⟩))))
    refine wpQuiet_nil ?_
    rintro _ ⟨y, rfl⟩
    go_wp2
    go_ret
    exact ⟨by rw [Q.out]; rfl, hbw.trans (y.2.mono (by simp))⟩
  by_cases h2 : kind = 2
  · subst h2
    have Q := Lib.hid (show topF xs rate 2 k m = mC xs rate k - mC xs rate (k + m) + dC xs rate (k + m) by simp [topF])
    go_enter Tryz.func142, Tryz.ntmps142
    go_wp2
    refine wp_region_past (by kernel_rfl) (by kernel_rfl) ?_
    repeat (first | (go_big_quiet_want; (first | (refine quiet_load_agg 26 _ rfl ⟨w.heap.size, 0, none⟩ rfl [.int .i64 first, .slice A n cap] hcs.out _ Tryz.underlying26 rfl Tab.size ?_)); go_simp; go_big_quiet_on) | go_big_quiet_step ((first | (go_at_call 162; exact past_call (spec_l05M_any first A n cap xs rate _ _ (HT.out.at_past _) HTab.out ⟨by omega, by omega⟩ ⟨by omega, by omega⟩)) | (go_at_call 39; exact past_call (spec_l05D_any first A n cap xs rate _ _ (HT.out.at_past _) HTab.out ⟨by omega, by omega⟩ ⟨by omega, by omega⟩)))))
    refine wpQuiet_nil ?_
    rintro _ ⟨y, rfl⟩
    go_wp2
    go_ret
    exact ⟨by rw [Q.out]; rfl, hbw.trans (y.2.mono (by simp))⟩
  have Q := Lib.hid (show topF xs rate kind k m = dC xs rate (k + m) by simp [topF, h0, h1, h2])
  go_enter Tryz.func142, Tryz.ntmps142
  go_wp2_with fail
  refine (spec_l05D_any first A n cap xs rate (age + yrs) _ HT.out HTab.out ⟨r1, r2⟩ ⟨by omega, by omega⟩).mono ?_
  rw [hE1]
  rintro e w1 ⟨rfl, hb1⟩
  go_wp2
  go_ret
  exact ⟨by rw [Q.out]; rfl, hbw.trans (hb1.mono (by simp))⟩

set_option maxHeartbeats 2000000 in
theorem spec_l07Base_any (first : Int) (A : Option Addr) (n cap : Nat) (xs : List Int) (rate kind age yrs : Int) (w : World) (hT : LiesT w A n xs) (T : TabOk first xs) (hr : 0 ≤ rate ∧ rate ≤ 200) (ha : first ≤ age ∧ age ≤ 300) (hy : 0 ≤ yrs ∧ age + yrs ≤ 420) :
    Calls Tryz.prog 143 #[.agg #[.int .i64 first, .slice A n cap], .int .i64 rate, .int .i64 kind, .int .i64 age, .int .i64 yrs] w fun e w' => e = .returned (.int .i64 (baseF xs rate kind (age - first).toNat yrs.toNat)) ∧ Below w.heap.size w w' := by
  have hbw : Below w.heap.size w (w.alloc (.cells #[.int .i64 first, .slice A n cap] 26)) := (Below.refl _ w).alloc (Nat.le_refl _) _
  have HB := Lib.hid (Blk.new w 26 #[.int .i64 first, .slice A n cap])
  have HT := Lib.hid (hT.past hbw); clear hT
  have HL := Lib.hid HT.out.len
  obtain ⟨a1, a2⟩ := ha
  obtain ⟨r1, r2⟩ := hr
  obtain ⟨y1, y2⟩ := hy
  obtain ⟨k, hk⟩ := Int.eq_ofNat_of_zero_le (show 0 ≤ age - first by omega)
  obtain ⟨m, hm⟩ := Int.eq_ofNat_of_zero_le y1
  have T1 := T.first0; have T2 := T.first1
  have hE0 : (age - first).toNat = k := by omega
  have hE1 : (age + yrs - first).toNat = k + m := by omega
  have hEm : yrs.toNat = m := by omega
  rw [hE0, hEm]
  clear hk hm hEm
  have HTab := Lib.hid T; clear T
  have hcs := Lib.hid (Blk.agg_past (cs := [.int .i64 first, .slice A n cap]) HB.out 0 [.int .i64 first, .slice A n cap] rfl)
  obtain ⟨b1, b2⟩ := nC_bound HTab.out r1 k
  obtain ⟨b3, b4⟩ := dC_bound HTab.out r1 k
  obtain ⟨b5, b6⟩ := nC_bound HTab.out r1 (k + m)
  obtain ⟨b7, b8⟩ := dC_bound HTab.out r1 (k + m)
  by_cases h0 : kind = 0
  · subst h0
    have Q := Lib.hid (show baseF xs rate 0 k m = nC xs rate k by simp [baseF])
    go_enter Tryz.func143, Tryz.ntmps143
    go_wp2_with fail
    refine (spec_l05N_any first A n cap xs rate age _ HT.out HTab.out ⟨r1, r2⟩ ⟨by omega, by omega⟩).mono ?_
    rw [hE0]
    rintro e w1 ⟨rfl, hb1⟩
    go_wp2
    go_ret
    exact ⟨by rw [Q.out]; rfl, hbw.trans (hb1.mono (by simp))⟩
  have Q := Lib.hid (show baseF xs rate kind k m = nC xs rate k - nC xs rate (k + m) by simp [baseF, h0])
  go_enter Tryz.func143, Tryz.ntmps143
  go_wp2
  refine wp_region_past (by kernel_rfl) (by kernel_rfl) ?_
  repeat (first | (go_big_quiet_want; (first | (refine quiet_load_agg 26 _ rfl ⟨w.heap.size, 0, none⟩ rfl [.int .i64 first, .slice A n cap] hcs.out _ Tryz.underlying26 rfl Tab.size ?_)); go_simp; go_big_quiet_on) | go_big_quiet_step ((go_at_call 40; exact past_call (spec_l05N_any first A n cap xs rate _ _ (HT.out.at_past _) HTab.out ⟨by omega, by omega⟩ ⟨by omega, by omega⟩))))
  refine wpQuiet_nil ?_
  rintro _ ⟨y, rfl⟩
  go_wp2
  go_ret
  exact ⟨by rw [Q.out]; rfl, hbw.trans (y.2.mono (by simp))⟩

/-- the reference's rounded-up quotient, where the quotient is not too great -/
theorem spec_l05Up_any (a b c : Int) (w : World) (ha : 0 ≤ a ∧ a < 4398046511104) (hb : 0 ≤ b ∧ b ≤ 1000000000000000000) (hc : 1 ≤ c ∧ c ≤ 1000000000000000000) (hq : a * b / c ≤ 1000000000000000000) :
    Calls Tryz.prog 38 #[.int .i64 a, .int .i64 b, .int .i64 c] w fun e w' => e = .returned (.int .i64 (upP a b c)) ∧ w = w' := by
  have Q := Lib.hid (show ldP a b c = (a * b / c, a * b % c) by unfold ldP; rw [if_pos hq])
  have h1 : 0 ≤ a * b / c := Int.ediv_nonneg (Int.mul_nonneg ha.1 hb.1) (by omega)
  have h2 : 0 ≤ a * b % c := Int.emod_nonneg _ (by omega)
  have QU := Lib.hid (show upP a b c = a * b / c + (if 0 < a * b % c then 1 else 0) from rfl)
  generalize a * b / c = q at *
  generalize a * b % c = r at *
  by_cases hr : 0 < r
  · rw [if_pos hr] at QU
    have hr1 : 1 ≤ r := hr
    have hmn : min 1 r = 1 := by omega
    go_enter Tryz.func38, Tryz.ntmps38
    go_wp2_with fail
    refine (spec_l05Divide_any a b c _ ha hb hc).mono ?_
    rw [Q.out]
    rintro e w1 ⟨rfl, rfl⟩
    go_wp2
    all_goals (go_ret; exact ⟨by rw [QU.out]; first | rfl | (exfalso; omega) | (congr 2; omega) | (congr 2; split <;> omega) , rfl⟩)
  · rw [if_neg hr] at QU
    have hr1 : r = 0 := by omega
    subst hr1
    go_enter Tryz.func38, Tryz.ntmps38
    go_wp2_with fail
    refine (spec_l05Divide_any a b c _ ha hb hc).mono ?_
    rw [Q.out]
    rintro e w1 ⟨rfl, rfl⟩
    go_wp2
    go_ret
    exact ⟨by rw [QU.out]; first | rfl | (congr 2; omega), rfl⟩


set_option maxHeartbeats 2000000 in
theorem spec_l07Level_any (first : Int) (A : Option Addr) (n cap : Nat) (xs : List Int) (rate kind age yrs sum : Int) (w : World) (hT : LiesT w A n xs) (T : TabOk first xs) (hr : 0 ≤ rate ∧ rate ≤ 200) (ha : first ≤ age ∧ age ≤ 300) (hy : 0 ≤ yrs ∧ yrs ≤ 120)
    (hs : 0 ≤ sum ∧ sum ≤ 100000000) (hk : kind = 0 ∨ 1 ≤ yrs) (hd : 1 ≤ dC xs rate (age - first).toNat) :
    Calls Tryz.prog 121 #[.agg #[.int .i64 first, .slice A n cap], .int .i64 rate, .int .i64 kind, .int .i64 age, .int .i64 yrs, .int .i64 sum] w fun e w' =>
      e = .returned (.int .i64 (upP sum (topF xs rate kind (age - first).toNat yrs.toNat) (baseF xs rate kind (age - first).toNat yrs.toNat))) ∧ Below w.heap.size w w' := by
  have hbw : Below w.heap.size w (w.alloc (.cells #[.int .i64 first, .slice A n cap] 26)) := (Below.refl _ w).alloc (Nat.le_refl _) _
  have HB := Lib.hid (Blk.new w 26 #[.int .i64 first, .slice A n cap])
  have HT := Lib.hid (hT.past hbw); clear hT
  obtain ⟨r1, r2⟩ := hr
  obtain ⟨s1, s2⟩ := hs
  have t1 := topF_bound T r1 kind (age - first).toNat yrs.toNat
  have t2 := baseF_bound T r1 kind (age - first).toNat yrs.toNat (by omega)
  have t3 := baseF_pos T r1 kind (age - first).toNat yrs.toNat (by omega)
  have t4 := dC_bound T r1 (age - first).toNat
  have t5 := mul_div_le (a := sum) (m := 1) s1 t1.1 (show 1 ≤ baseF xs rate kind (age - first).toNat yrs.toNat by omega) (by omega)
  have HTab := Lib.hid T; clear T
  have hcs := Lib.hid (Blk.agg_past (cs := [.int .i64 first, .slice A n cap]) HB.out 0 [.int .i64 first, .slice A n cap] rfl)
  go_enter Tryz.func121, Tryz.ntmps121
  go_wp2
  refine wp_region_past (by kernel_rfl) (by kernel_rfl) ?_
  repeat (first | (go_big_quiet_want; (first | (refine quiet_load_agg 26 _ rfl ⟨w.heap.size, 0, none⟩ rfl [.int .i64 first, .slice A n cap] hcs.out _ Tryz.underlying26 rfl Tab.size ?_)); go_simp; go_big_quiet_on) | go_big_quiet_step ((first | (go_at_call 142; exact past_call (spec_l07Top_any first A n cap xs rate kind age yrs _ (HT.out.at_past _) HTab.out ⟨r1, r2⟩ ⟨by omega, by omega⟩ ⟨by omega, by omega⟩)) | (go_at_call 143; exact past_call (spec_l07Base_any first A n cap xs rate kind age yrs _ (HT.out.at_past _) HTab.out ⟨r1, r2⟩ ⟨by omega, by omega⟩ ⟨by omega, by omega⟩)) | (go_at_call 38; exact past_same (spec_l05Up_any sum _ _ _ ⟨by omega, by omega⟩ ⟨by omega, by omega⟩ ⟨by omega, by omega⟩ (by omega))))))
  refine wpQuiet_nil ?_
  rintro _ ⟨y, rfl⟩
  go_wp2
  go_ret
  exact ⟨rfl, hbw.trans (y.2.mono (by simp))⟩

/-- the codes of the arguments, as the reference asks them -/
def code5 (first : Int) (xs : List Int) (rate age : Int) : Int := if tableB first xs = true then (if inR rate 0 200 = true ∧ inR age first 150 = true then 0 else 2) else 1
def code6 (first : Int) (xs : List Int) (rate age : Int) (b : Bool) (yrs : Int) : Int :=
  if code5 first xs rate age = 0 then (if b = true ∧ inR yrs 0 120 = true ∧ age + yrs ≤ 150 then (if dC xs rate (age - first).toNat = 0 then 5 else 0) else 2) else code5 first xs rate age
theorem code5_ok {first : Int} {xs : List Int} {rate age : Int} (h : code5 first xs rate age = 0) : TabOk first xs ∧ (0 ≤ rate ∧ rate ≤ 200) ∧ first ≤ age ∧ age ≤ 150 := by
  unfold code5 at h
  by_cases h1 : tableB first xs = true
  · rw [if_pos h1] at h
    by_cases h2 : inR rate 0 200 = true ∧ inR age first 150 = true
    · exact ⟨table_ok h1, inR_true.1 h2.1, inR_true.1 h2.2⟩
    · rw [if_neg h2] at h; omega
  · rw [if_neg h1] at h; omega

set_option maxHeartbeats 2000000 in
theorem spec_l05Code_any (first : Int) (A : Option Addr) (n cap : Nat) (xs : List Int) (rate age : Int) (w : World) (hT : LiesT w A n xs) (hcap : n ≤ cap) (hf : In64 first) :
    Calls Tryz.prog 107 #[.agg #[.int .i64 first, .slice A n cap], .int .i64 rate, .int .i64 age] w fun e w' => e = .returned (.int .i64 (code5 first xs rate age)) ∧ Below w.heap.size w w' := by
  have hbw : Below w.heap.size w (w.alloc (.cells #[.int .i64 first, .slice A n cap] 26)) := (Below.refl _ w).alloc (Nat.le_refl _) _
  have HB := Lib.hid (Blk.new w 26 #[.int .i64 first, .slice A n cap])
  have HT := Lib.hid (hT.past hbw); clear hT
  cases h1 : tableB first xs
  · have Q := Lib.hid (show code5 first xs rate age = 1 by simp [code5, h1])
    go_enter Tryz.func107, Tryz.ntmps107
    go_wp2_with fail
    refine (spec_IsLifeTable_any first A n cap xs _ HT.out hcap hf).mono ?_
    rw [h1]
    rintro e w1 ⟨rfl, hb1⟩
    go_wp2
    go_ret
    exact ⟨by rw [Q.out]; rfl, hbw.trans (hb1.mono (by simp))⟩
  cases h2 : inR rate 0 200
  · have Q := Lib.hid (show code5 first xs rate age = 2 by simp [code5, h1, h2])
    go_enter Tryz.func107, Tryz.ntmps107
    go_wp2_with fail
    refine (spec_IsLifeTable_any first A n cap xs _ HT.out hcap hf).mono ?_
    rw [h1]
    rintro e w1 ⟨rfl, hb1⟩
    go_wp2_with (first | (go_at_call 117; refine (spec_l04Rate_any _ _).mono ?_; rintro e w' ⟨rfl, rfl⟩))
    go_ret
    exact ⟨by rw [Q.out]; rfl, hbw.trans (hb1.mono (by simp))⟩
  cases h3 : inR age first 150
  · have Q := Lib.hid (show code5 first xs rate age = 2 by simp [code5, h1, h2, h3])
    go_enter Tryz.func107, Tryz.ntmps107
    go_wp2_with fail
    refine (spec_IsLifeTable_any first A n cap xs _ HT.out hcap hf).mono ?_
    rw [h1]
    rintro e w1 ⟨rfl, hb1⟩
    have c0 : w1.cell? ⟨w.heap.size, 0, none⟩ = some (.int .i64 first) := (HB.out.below' hb1).cell 0
    go_wp2_with (first | (go_at_call 117; refine (spec_l04Rate_any _ _).mono ?_; rintro e w' ⟨rfl, rfl⟩) | (go_at_call 72; refine (spec_l01In_any _ _ _ _).mono ?_; rintro e w' ⟨rfl, rfl⟩))
    go_ret
    exact ⟨by rw [Q.out]; rfl, hbw.trans (hb1.mono (by simp))⟩
  · have Q := Lib.hid (show code5 first xs rate age = 0 by simp [code5, h1, h2, h3])
    go_enter Tryz.func107, Tryz.ntmps107
    go_wp2_with fail
    refine (spec_IsLifeTable_any first A n cap xs _ HT.out hcap hf).mono ?_
    rw [h1]
    rintro e w1 ⟨rfl, hb1⟩
    have c0 : w1.cell? ⟨w.heap.size, 0, none⟩ = some (.int .i64 first) := (HB.out.below' hb1).cell 0
    go_wp2_with (first | (go_at_call 117; refine (spec_l04Rate_any _ _).mono ?_; rintro e w' ⟨rfl, rfl⟩) | (go_at_call 72; refine (spec_l01In_any _ _ _ _).mono ?_; rintro e w' ⟨rfl, rfl⟩))
    go_ret
    exact ⟨by rw [Q.out]; rfl, hbw.trans (hb1.mono (by simp))⟩

set_option maxHeartbeats 2000000 in
theorem spec_l06Code_any (first : Int) (A : Option Addr) (n cap : Nat) (xs : List Int) (rate age : Int) (b : Bool) (yrs : Int) (w : World) (hT : LiesT w A n xs) (hcap : n ≤ cap) (hf : In64 first) :
    Calls Tryz.prog 71 #[.agg #[.int .i64 first, .slice A n cap], .int .i64 rate, .int .i64 age, .bool b, .int .i64 yrs] w fun e w' => e = .returned (.int .i64 (code6 first xs rate age b yrs)) ∧ Below w.heap.size w w' := by
  have hbw : Below w.heap.size w (w.alloc (.cells #[.int .i64 first, .slice A n cap] 26)) := (Below.refl _ w).alloc (Nat.le_refl _) _
  have HB := Lib.hid (Blk.new w 26 #[.int .i64 first, .slice A n cap])
  have HT := Lib.hid (hT.past hbw); clear hT
  by_cases h5 : code5 first xs rate age = 0
  rotate_left
  · have Q := Lib.hid (show code6 first xs rate age b yrs = code5 first xs rate age by unfold code6; rw [if_neg h5])
    go_enter Tryz.func71, Tryz.ntmps71
    go_wp2_with fail
    refine (spec_l05Code_any first A n cap xs rate age _ HT.out hcap hf).mono ?_
    rintro e w1 ⟨rfl, hb1⟩
    go_wp2
    go_ret
    exact ⟨by rw [Q.out]; rfl, hbw.trans (hb1.mono (by simp))⟩
  have H5 := Lib.hid h5
  obtain ⟨T, ⟨r1, r2⟩, a1, a2⟩ := code5_ok h5
  have HTab := Lib.hid T; clear T
  clear h5
  by_cases hin : b = true ∧ inR yrs 0 120 = true ∧ age + yrs ≤ 150
  rotate_left
  · have Q := Lib.hid (show code6 first xs rate age b yrs = 2 by unfold code6; rw [if_pos H5.out, if_neg hin])
    cases b
    · go_enter Tryz.func71, Tryz.ntmps71
      go_wp2_with fail
      refine (spec_l05Code_any first A n cap xs rate age _ HT.out hcap hf).mono ?_
      rw [H5.out]
      rintro e w1 ⟨rfl, hb1⟩
      go_wp2
      go_ret
      exact ⟨by rw [Q.out]; rfl, hbw.trans (hb1.mono (by simp))⟩
    cases hy : inR yrs 0 120
    · go_enter Tryz.func71, Tryz.ntmps71
      go_wp2_with fail
      refine (spec_l05Code_any first A n cap xs rate age _ HT.out hcap hf).mono ?_
      rw [H5.out]
      rintro e w1 ⟨rfl, hb1⟩
      go_wp2_with (first | (go_at_call 72; refine (spec_l01In_any _ _ _ _).mono ?_; rintro e w' ⟨rfl, rfl⟩))
      go_ret
      exact ⟨by rw [Q.out]; rfl, hbw.trans (hb1.mono (by simp))⟩
    have hyy := inR_true.1 hy
    have hlate : ¬ age + yrs ≤ 150 := fun h => hin ⟨rfl, hy, h⟩
    obtain ⟨y1, y2⟩ := hyy
    clear hin
    have T0 := HTab.out.first0
    go_enter Tryz.func71, Tryz.ntmps71
    go_wp2_with fail
    refine (spec_l05Code_any first A n cap xs rate age _ HT.out hcap hf).mono ?_
    rw [H5.out]
    rintro e w1 ⟨rfl, hb1⟩
    go_wp2_with (first | (go_at_call 72; refine (spec_l01In_any _ _ _ _).mono ?_; rintro e w' ⟨rfl, rfl⟩))
    go_ret
    exact ⟨by rw [Q.out]; rfl, hbw.trans (hb1.mono (by simp))⟩
  have HIN := Lib.hid hin
  obtain ⟨rfl, hy, he⟩ := hin
  have T0 := HTab.out.first0
  obtain ⟨y1, y2⟩ := inR_true.1 hy
  by_cases hd : dC xs rate (age - first).toNat = 0
  · have Q := Lib.hid (show code6 first xs rate age true yrs = 5 by unfold code6; rw [if_pos H5.out, if_pos HIN.out, if_pos hd])
    have HD := Lib.hid hd; clear hd
    go_enter Tryz.func71, Tryz.ntmps71
    go_wp2_with fail
    refine (spec_l05Code_any first A n cap xs rate age _ HT.out hcap hf).mono ?_
    rw [H5.out]
    rintro e w1 ⟨rfl, hb1⟩
    have HB1 := Lib.hid (HB.out.below' hb1)
    have hc1 := Lib.hid (Blk.agg (cs := [.int .i64 first, .slice A n cap]) HB1.out 0 [.int .i64 first, .slice A n cap] rfl)
    have HT1 := Lib.hid (HT.out.past hb1)
    go_wp2_with (first | (go_at_call 72; refine (spec_l01In_any _ _ _ _).mono ?_; rintro e w' ⟨rfl, rfl⟩) | (refine wpList_load_agg rfl 26 _ rfl ⟨w.heap.size, 0, none⟩ rfl [.int .i64 first, .slice A n cap] hc1.out _ Tryz.underlying26 rfl Tab.size ?_))
    refine (spec_l05D_any first A n cap xs rate age _ HT1.out HTab.out ⟨r1, r2⟩ ⟨by omega, by omega⟩).mono ?_
    rw [HD.out]
    rintro e w2 ⟨rfl, hb2⟩
    go_wp2
    go_ret
    exact ⟨by rw [Q.out]; rfl, hbw.trans ((hb1.mono (by simp)).trans (hb2.mono (by have := hb1.size; simp at this; omega)))⟩
  · have Q := Lib.hid (show code6 first xs rate age true yrs = 0 by unfold code6; rw [if_pos H5.out, if_pos HIN.out, if_neg hd])
    go_enter Tryz.func71, Tryz.ntmps71
    go_wp2_with fail
    refine (spec_l05Code_any first A n cap xs rate age _ HT.out hcap hf).mono ?_
    rw [H5.out]
    rintro e w1 ⟨rfl, hb1⟩
    have HB1 := Lib.hid (HB.out.below' hb1)
    have hc1 := Lib.hid (Blk.agg (cs := [.int .i64 first, .slice A n cap]) HB1.out 0 [.int .i64 first, .slice A n cap] rfl)
    have HT1 := Lib.hid (HT.out.past hb1)
    go_wp2_with (first | (go_at_call 72; refine (spec_l01In_any _ _ _ _).mono ?_; rintro e w' ⟨rfl, rfl⟩) | (refine wpList_load_agg rfl 26 _ rfl ⟨w.heap.size, 0, none⟩ rfl [.int .i64 first, .slice A n cap] hc1.out _ Tryz.underlying26 rfl Tab.size ?_))
    refine (spec_l05D_any first A n cap xs rate age _ HT1.out HTab.out ⟨r1, r2⟩ ⟨by omega, by omega⟩).mono ?_
    rintro e w2 ⟨rfl, hb2⟩
    go_wp2
    go_ret
    exact ⟨by rw [Q.out]; rfl, hbw.trans ((hb1.mono (by simp)).trans (hb2.mono (by have := hb1.size; simp at this; omega)))⟩

end Go.Proofs.YtkdfdbcpbgganaaGreatDoor
end

/- Sickness benefits: codes, values and premiums. Plain. -/
section
namespace Go.Proofs.YtkdfdbcpbgganaaGreatDoor
open Go.RowKit Go.BigFrame

theorem lv_range {xs : List Int} {lo hi : Int} (h : allR xs lo hi = true) (h0 : lo ≤ 0 ∧ 0 ≤ hi) (k : Nat) : lo ≤ lv xs k ∧ lv xs k ≤ hi := by
  rcases Nat.lt_or_ge k xs.length with hk | hk
  · have h2 := List.mem_of_getElem? (lv_some hk)
    unfold allR at h
    exact inR_true.1 (List.all_eq_true.1 h _ h2)
  · rw [lv_past hk]; exact h0
structure SickOk (f : Int) (xs : List Int) : Prop where
  first0 : 0 ≤ f
  first1 : f ≤ 100
  len0 : 1 ≤ xs.length
  len1 : xs.length ≤ 120
  fit : ∀ x ∈ xs, 0 ≤ x ∧ x ≤ 52000
  week : ∀ age, 0 ≤ weeksP f xs age ∧ weeksP f xs age ≤ 52000
theorem sick_ok {f : Int} {xs : List Int} (h : sickB f xs = true) : SickOk f xs := by
  unfold sickB at h
  simp only [Bool.and_eq_true] at h
  obtain ⟨h1, h2, h3⟩ := h
  obtain ⟨a1, a2⟩ := inR_true.1 h1
  obtain ⟨b1, b2⟩ := inR_true.1 h2
  refine ⟨a1, a2, by omega, by omega, ?_, ?_⟩
  · intro x hx
    unfold allR at h3
    exact inR_true.1 (List.all_eq_true.1 h3 _ hx)
  · intro age
    unfold weeksP
    split
    · exact lv_range h3 (by omega) _
    · omega
theorem sumF_bound {f : Nat → Int} {B : Int} (hf : ∀ k, 0 ≤ f k ∧ f k ≤ B) : ∀ k m : Nat, 0 ≤ sumF f k m ∧ sumF f k m ≤ (m : Int) * B
  | _, 0 => by simp [sumF]
  | k, m + 1 => by
    have h1 := sumF_bound hf (k + 1) m
    have h2 := hf k
    have h3 : ((m + 1 : Nat) : Int) * B = (m : Int) * B + B := by rw [Int.natCast_add, Int.add_mul]; simp
    show 0 ≤ f k + sumF f (k + 1) m ∧ f k + sumF f (k + 1) m ≤ _
    rw [h3]; omega

/-- the arguments of a benefit -/
structure Ben where
  f : Int
  xs : List Int
  g : Int
  ws : List Int
  rate : Int
  age : Int
  n : Int
  pay : Int
def Ben.ix (b : Ben) : Nat := (b.age - b.f).toNat
def Ben.in_ (b : Ben) : Bool := inR b.n 1 60 && inR b.pay 1 100000
def Ben.code (b : Ben) : Int := if sickB b.g b.ws = true then code6 b.f b.xs b.rate b.age b.in_ b.n else 1
def Ben.d (b : Ben) (k : Nat) : Int := dC b.xs b.rate (b.ix + k)
def Ben.week (b : Ben) (k : Nat) : Int := weeksP b.g b.ws (b.age + (k : Int))
def Ben.term (b : Ben) (k : Nat) : Int := upP (b.pay * b.week k) (b.d k) (1000 * b.d 0)
def Ben.val (b : Ben) : Int := sumF b.term 0 b.n.toNat
def Ben.paid (b : Ben) : Int := nC b.xs b.rate b.ix - nC b.xs b.rate (b.ix + b.n.toNat)
def Ben.prem (b : Ben) : Int := upP b.val (b.d 0) b.paid
/-- what is handed on -/
def Ben.v (b : Ben) : Int := if b.code = 0 then b.val else 0
def Ben.p (b : Ben) : Int := if b.code = 0 then b.prem else 0
structure BenOk (b : Ben) : Prop where
  tab : TabOk b.f b.xs
  tabB : tableB b.f b.xs = true
  sickT : sickB b.g b.ws = true
  sick : SickOk b.g b.ws
  rate0 : 0 ≤ b.rate
  rate1 : b.rate ≤ 200
  age0 : b.f ≤ b.age
  n0 : 1 ≤ b.n
  n1 : b.n ≤ 60
  end1 : b.age + b.n ≤ 150
  pay0 : 1 ≤ b.pay
  pay1 : b.pay ≤ 100000
  d0 : 1 ≤ b.d 0
theorem ben_ok {b : Ben} (h : b.code = 0) : BenOk b := by
  unfold Ben.code at h
  split at h
  rotate_left
  · omega
  rename_i h1
  unfold code6 at h
  split at h
  rotate_left
  · rename_i h2; exact absurd h h2
  rename_i h2
  obtain ⟨T, ⟨r0, r1⟩, a0, a1⟩ := code5_ok h2
  have ht : tableB b.f b.xs = true := by
    unfold code5 at h2
    split at h2
    · assumption
    · omega
  split at h
  rotate_left
  · omega
  rename_i h3
  obtain ⟨h4, h5, h6⟩ := h3
  unfold Ben.in_ at h4
  rw [Bool.and_eq_true] at h4
  obtain ⟨n0, n1⟩ := inR_true.1 h4.1
  obtain ⟨p0, p1⟩ := inR_true.1 h4.2
  split at h
  · omega
  rename_i h7
  have h8 := (dC_bound T r0 (b.age - b.f).toNat).1
  exact { tab := T, tabB := ht, sickT := h1, sick := sick_ok h1, rate0 := r0, rate1 := r1, age0 := a0, n0 := n0, n1 := n1, end1 := h6, pay0 := p0, pay1 := p1, d0 := by
            show 1 ≤ dC b.xs b.rate ((b.age - b.f).toNat + 0)
            rw [Nat.add_zero]; omega }
theorem ben_code {b : Ben} (h : BenOk b) : b.code = 0 := by
  have n0 := h.n0; have n1 := h.n1; have e := h.end1; have a0 := h.age0
  have h5 : code5 b.f b.xs b.rate b.age = 0 := by
    unfold code5
    rw [if_pos h.tabB, if_pos ⟨inR_true.2 ⟨h.rate0, h.rate1⟩, inR_true.2 ⟨h.age0, by omega⟩⟩]
  unfold Ben.code
  rw [if_pos h.sickT]
  unfold code6
  have hd := h.d0
  unfold Ben.d Ben.ix at hd
  rw [Nat.add_zero] at hd
  rw [if_pos h5, if_pos ⟨by unfold Ben.in_; rw [inR_true.2 ⟨h.n0, h.n1⟩, inR_true.2 ⟨h.pay0, h.pay1⟩]; rfl, inR_true.2 ⟨by omega, by omega⟩, h.end1⟩, if_neg (by omega)]
section
variable {b : Ben} (B : BenOk b)
include B
theorem ben_d (k : Nat) : 0 ≤ b.d k ∧ b.d k ≤ b.d 0 ∧ b.d 0 ≤ 1000000000000000 :=
  ⟨(dC_bound B.tab B.rate0 _).1, by have := dC_anti_add B.tab B.rate0 b.ix k; exact this, (dC_bound B.tab B.rate0 _).2⟩
theorem ben_pay (k : Nat) : 0 ≤ b.pay * b.week k ∧ b.pay * b.week k ≤ 5200000000 := by
  have h1 := B.sick.week (b.age + (k : Int))
  have h2 := B.pay0; have h3 := B.pay1
  have h4 : (0 : Int) ≤ b.pay * b.week k := Int.mul_nonneg (by omega) h1.1
  have h5 : b.pay * b.week k ≤ 100000 * 52000 := Int.mul_le_mul h3 h1.2 h1.1 (by omega)
  exact ⟨h4, by omega⟩
theorem ben_quo (k : Nat) : b.pay * b.week k * b.d k / (1000 * b.d 0) ≤ 5200000000 := by
  have h1 := ben_pay B k
  have h2 := ben_d B k
  have h3 := B.d0
  have := (mul_div_le (m := 1) h1.1 h2.1 (c := 1000 * b.d 0) (by omega) (by omega)).2
  omega
theorem ben_term (k : Nat) : 0 ≤ b.term k ∧ b.term k ≤ 5200000000 := by
  have h1 := ben_pay B k
  have h2 := ben_d B k
  have h3 := B.d0
  have h4 := up_le h1.1 h2.1 (c := 1000 * b.d 0) (by omega) (by omega)
  unfold Ben.term
  omega
theorem ben_part (m : Nat) (hm : m ≤ 60) : 0 ≤ sumF b.term 0 m ∧ sumF b.term 0 m ≤ 312000000000 := by
  have h1 := sumF_bound (ben_term B) 0 m
  have h2 : (m : Int) * 5200000000 ≤ 60 * 5200000000 := Int.mul_le_mul_of_nonneg_right (by omega) (by omega)
  omega
theorem ben_val : 0 ≤ b.val ∧ b.val ≤ 312000000000 := ben_part B _ (by have := B.n1; omega)
theorem ben_paid : b.d 0 ≤ b.paid ∧ b.paid ≤ 120000000000000000 := by
  have h1 := baseF_pos B.tab B.rate0 1 b.ix b.n.toNat (.inr (by have := B.n0; omega))
  have h2 := baseF_bound B.tab B.rate0 1 b.ix b.n.toNat (by have := B.n1; omega)
  have h3 := ben_d B 0
  have e : baseF b.xs b.rate 1 b.ix b.n.toNat = b.paid := by unfold baseF; rw [if_neg (by omega)]; rfl
  rw [e] at h1 h2
  have e2 : dC b.xs b.rate b.ix = b.d 0 := rfl
  rw [e2] at h1 h2
  omega
theorem ben_prem : 0 ≤ b.prem ∧ b.prem ≤ b.val := by
  have h1 := ben_val B
  have h2 := ben_paid B
  have h3 := B.d0
  exact up_le h1.1 (by omega) (by omega) h2.1
theorem ben_pquo : b.val * b.d 0 / b.paid ≤ 312000000000 := by
  have h1 := ben_val B
  have h2 := ben_paid B
  have h3 := B.d0
  have := (mul_div_le (m := 1) h1.1 (x := b.d 0) (c := b.paid) (by omega) (by omega) (by omega)).2
  omega
end
/-- a shorter time -/
def Ben.less (b : Ben) : Ben := { b with n := b.n - 1 }
theorem less_ok {b : Ben} (B : BenOk b) (h : b.n ≠ 1) : BenOk b.less := by
  have n0 := B.n0; have n1 := B.n1; have e := B.end1
  exact { tab := B.tab, tabB := B.tabB, sickT := B.sickT, sick := B.sick, rate0 := B.rate0, rate1 := B.rate1, age0 := B.age0, n0 := by show 1 ≤ b.n - 1; omega, n1 := by show b.n - 1 ≤ 60; omega, end1 := by show b.age + (b.n - 1) ≤ 150; omega, pay0 := B.pay0, pay1 := B.pay1, d0 := B.d0 }
theorem less_val {b : Ben} (B : BenOk b) : b.less.val ≤ b.val := by
  have n0 := B.n0
  obtain ⟨m, hm⟩ : ∃ m : Nat, b.n = (m : Int) + 1 := ⟨(b.n - 1).toNat, by omega⟩
  have e1 : b.less.val = sumF b.term 0 m := by
    show sumF b.less.term 0 (b.n - 1).toNat = _
    rw [show (b.n - 1).toNat = m by omega]; rfl
  have e2 : b.val = sumF b.term 0 m + b.term (0 + m) := by
    unfold Ben.val
    rw [show b.n.toNat = m + 1 by omega]
    exact sumF_snoc _ 0 m
  have := (ben_term B (0 + m)).1
  omega
end Go.Proofs.YtkdfdbcpbgganaaGreatDoor
end

/- Sickness tables are written: SickText of the program and of the reference. -/
section
namespace Go.Proofs.YtkdfdbcpbgganaaGreatDoor
open Go.RowKit Go.BigFrame

def sickP (f : Int) (xs : List Int) : List UInt8 := if sickB f xs = true then numsL (f :: xs) else []
theorem sick_bounds {f : Int} {xs : List Int} (h : sickB f xs = true) : (0 ≤ f ∧ f ≤ 100) ∧ (1 ≤ xs.length ∧ xs.length ≤ 120) ∧ ∀ x ∈ xs, 0 ≤ x ∧ x ≤ 1000000 := by
  have T := sick_ok h
  refine ⟨⟨T.first0, T.first1⟩, ⟨T.len0, T.len1⟩, fun x hx => ?_⟩
  have := T.fit x hx; omega
set_option maxHeartbeats 2000000 in
theorem impl_SickText_any (f : Int) (A : Option Addr) (n cap : Nat) (xs : List Int) (w : World) (hT : LiesT w A n xs) (hf : In64 f) (hTab : Tab w) :
    Calls Tryz.prog 11 #[.agg #[.int .i64 f, .slice A n cap]] w fun e w' => e = .returned (.string (S (sickP f xs))) ∧ Below w.heap.size w w' := by
  have hbw : Below w.heap.size w (w.alloc (.cells #[.int .i64 f, .slice A n cap] 28)) := (Below.refl _ w).alloc (Nat.le_refl _) _
  have HB := Lib.hid (Blk.new w 28 #[.int .i64 f, .slice A n cap])
  have HT := Lib.hid (hT.past hbw); clear hT
  have HTB := Lib.hid (hTab.past hbw); clear hTab
  have HL := Lib.hid HT.out.len
  go_enter Tryz.func11, Tryz.ntmps11
  go_wp2_with fail
  refine (impl_IsSickTable_any f A n cap xs _ HT.out).mono ?_
  rintro e w1 ⟨rfl, hb1⟩
  cases ht : sickB f xs
  · have Q := Lib.hid (show sickP f xs = [] by unfold sickP; rw [ht]; rfl)
    go_wp2
    go_ret
    exact ⟨by rw [Q.out]; rfl, hbw.trans (hb1.mono (by simp))⟩
  · obtain ⟨⟨f0, f1⟩, ⟨x0, x1⟩, hxb⟩ := sick_bounds ht
    have Q := Lib.hid (show sickP f xs = numsL (f :: xs) by unfold sickP; rw [ht]; rfl)
    have HT1 := Lib.hid (HT.out.past hb1)
    have HTB1 := Lib.hid (HTB.out.past hb1)
    have hn := HL.out
    have HDC := Lib.hid (fun y : Past w1 => (show Calls Tryz.prog 41 #[.int .i64 f] y.1 (fun e w' => e = .returned (.string (S (decL f))) ∧ Below y.1.heap.size y.1 w') from by
      have := impl_decimal_any f hf y.1 (Past.tab HTB1.out y)
      rwa [itoa_pos f0] at this))
    have HJN := Lib.hid (fun y : Past w1 => impl_joined_any A n cap xs y.1 hn (by omega) (HT1.out.at_past y).rd hxb (Past.tab HTB1.out y))
    have hzd : (S (decL f)).size ≤ 17 := decS_len (by omega)
    have hzj := nums_size (xs := xs) (by omega) hxb xs.length
    rw [List.take_length] at hzj
    have HQ := Lib.hid (show S (numsL (f :: xs)) = S (decL f) ++ (⟨#[32]⟩ : ByteArray) ++ S (numsL xs) from by
      rw [nums_cons (by intro h0; rw [h0] at x0; simp at x0), ← S_append, ← S_append]; rfl)
    generalize S (decL f) = DS at HDC hzd HQ
    generalize S (numsL xs) = JS at HJN hzj HQ
    change Hid _ at HDC
    change Hid _ at HJN
    change Hid _ at HQ
    have hcs := Lib.hid (Blk.agg_past (cs := [.int .i64 f, .slice A n cap]) (HB.out.below' hb1) 0 [.int .i64 f, .slice A n cap] rfl)
    have d0 := fun y : Past w1 => (show y.1.cell? ⟨w.heap.size, 0, none⟩ = some (.int .i64 f) from Past.cell (p := ⟨w.heap.size, 0, none⟩) ((HB.out.below' hb1).cell 0) y)
    have d1 := fun y : Past w1 => (show y.1.cell? ⟨w.heap.size, 1, none⟩ = some (.slice A n cap) from Past.cell (p := ⟨w.heap.size, 1, none⟩) ((HB.out.below' hb1).cell 1) y)
    have u1 : ¬ 9223372036854775807 < DS.size + 1 := by omega
    have u2 : ¬ 9223372036854775807 < DS.size + 1 + JS.size := by omega
    clear hn hxb x0 x1 ht
    go_wp2
    refine wp_region_past (by kernel_rfl) (by kernel_rfl) ?_
    repeat (go_big_quiet_step ((first | (go_at_call 41; exact past_call (HDC.out _)) | (go_at_call 42; exact past_call (HJN.out _)))))
    refine wpQuiet_nil ?_
    rintro _ ⟨y, rfl⟩
    go_wp2
    go_ret
    exact ⟨by rw [Q.out, HQ.out]; rfl, hbw.trans ((hb1.trans (y.2.mono hb1.size)).mono (by simp))⟩

set_option maxHeartbeats 2000000 in
theorem spec_SickText_any (f : Int) (A : Option Addr) (n cap : Nat) (xs : List Int) (w : World) (hT : LiesT w A n xs) (hf : In64 f) :
    Calls Tryz.prog 15 #[.agg #[.int .i64 f, .slice A n cap]] w fun e w' => e = .returned (.string (S (sickP f xs))) ∧ Below w.heap.size w w' := by
  obtain ⟨i0, hi0, hj0, hj1, hj2⟩ := info_parts Int64.info
  have HI := Lib.hid (And.intro hi0 (And.intro hj0 (And.intro hj1 hj2))); clear hi0 hj0 hj1 hj2
  have hbw : Below w.heap.size w (w.alloc (.cells #[.int .i64 f, .slice A n cap] 28)) := (Below.refl _ w).alloc (Nat.le_refl _) _
  have HB := Lib.hid (Blk.new w 28 #[.int .i64 f, .slice A n cap])
  have HT := Lib.hid (hT.past hbw); clear hT
  have HL := Lib.hid HT.out.len
  go_enter Tryz.func15, Tryz.ntmps15
  go_wp2_with fail
  refine (spec_IsSickTable_any f A n cap xs _ HT.out).mono ?_
  rintro e w1 ⟨rfl, hb1⟩
  cases ht : sickB f xs
  · have Q := Lib.hid (show sickP f xs = [] by unfold sickP; rw [ht]; rfl)
    go_wp2
    go_ret
    exact ⟨by rw [Q.out]; rfl, hbw.trans (hb1.mono (by simp))⟩
  · obtain ⟨⟨f0, f1⟩, ⟨x0, x1⟩, hxb⟩ := sick_bounds ht
    have Q := Lib.hid (show sickP f xs = numsL (f :: xs) by unfold sickP; rw [ht]; rfl)
    have b0 : w1.cell? ⟨w.heap.size, 0, none⟩ = some (.int .i64 f) := (HB.out.below' hb1).cell 0
    have b1 : w1.cell? ⟨w.heap.size, 1, none⟩ = some (.slice A n cap) := (HB.out.below' hb1).cell 1
    have hal : Below w1.heap.size w1 (w1.alloc (.cells #[.int .i64 f] 2)) := (Below.refl _ w1).alloc (Nat.le_refl _) _
    have b2 : (w1.alloc (.cells #[.int .i64 f] 2)).cell? ⟨w.heap.size, 1, none⟩ = some (.slice A n cap) := (hal.cell (show w.heap.size < w1.heap.size from (HB.out.below' hb1).lt)).trans b1
    have HT2 := Lib.hid ((HT.out.past hb1).past hal)
    have HB1 := Lib.hid hb1
    have HXB := Lib.hid hxb
    have HRN := Lib.hid (show Res w1.heap.size (w1.alloc (.cells #[.int .i64 f] 2)) 2 1 (some ⟨w1.heap.size, 0, none⟩) 1 1 (intRows [f]) from ⟨⟨by simp [intRows], .inr ⟨w1.heap.size, 1, #[.int .i64 f], rfl, Nat.le_refl _, Blk.new w1 _ _, Nat.le_refl _, by decide, by simp, by simp [intRows]⟩⟩, rfl, intRows_all [f]⟩)
    have hn := HL.out
    have hA0 := Lib.hid (show A = none → n = 0 from fun h0 => by
      rcases HT2.out.rd with h | ⟨ad, e, _⟩
      · have h9 := congrArg List.length h
        rw [intRows_length, hn] at h9
        simpa using h9
      · rw [h0] at e; cases e)
    clear hxb x0 ht
    go_wp2_with (at_builtin; refine wpList_append_res _ rfl _ _ 24 rfl w1.heap.size 2 i0 _ 1 8 Tryz.underlying24 HI.out.1 HI.out.2.1 HI.out.2.2.1 HI.out.2.2.2 rfl (by decide) _ 1 1 (intRows [f]) rfl HRN.out _ A n cap (intRows xs) rfl hA0.out HT2.out.rd (by rw [intRows_length]; exact hn) (intRows_all xs) (by intro r hr u hu; obtain ⟨y, _, rfl⟩ := List.mem_map.1 hr; simp at hu; subst hu; rfl) (by omega) (by omega) (by simp) ?_; intro A5 c5 w5 hR5 hb5)
    rw [show intRows [f] ++ intRows xs = intRows (f :: xs) by simp [intRows]] at hR5
    have HR5 := Lib.hid hR5
    have hb5' : Below w1.heap.size w1 w5 := hal.trans (hb5.mono (Nat.le_refl _))
    have HB5 := Lib.hid (HB1.out.trans (hb5'.mono HB1.out.size))
    clear hR5 hb5 hb5'
    go_wp2_with fail
    refine (spec_l01Join_any A5 (1 + n) c5 (f :: xs) w5 (by rw [List.length_cons, hn]; omega) (by omega) HR5.out.rd (fun y hy => by
      rcases List.mem_cons.1 hy with rfl | hy
      · omega
      · exact HXB.out y hy)).mono ?_
    rintro e w6 ⟨rfl, hb6⟩
    go_wp2
    go_ret
    exact ⟨by rw [Q.out]; rfl, hbw.trans ((HB5.out.trans (hb6.mono HB5.out.size)).mono (by simp))⟩
end Go.Proofs.YtkdfdbcpbgganaaGreatDoor
end

/- Life tables are read: ReadTable of the program and of the reference. -/
section
namespace Go.Proofs.YtkdfdbcpbgganaaGreatDoor
open Go.RowKit Go.BigFrame

def TabE (s : ByteArray) (w w' : World) (e : Ending) : Prop := ∃ (f : Int) (A : Option Addr) (n c : Nat) (b : Bool) (xs : List Int), e = .returned (.tuple #[.agg #[.int .i64 f, .slice A n c], .bool b]) ∧ LiesT w' A n xs ∧ n ≤ c ∧ In64 f ∧
  (b = true → tableB f xs = true ∧ s.data.toList = numsL (f :: xs)) ∧ (b = false → f = 0 ∧ xs = []) ∧ (∀ (g : Int) (ys : List Int), tableB g ys = true → s.data.toList = numsL (g :: ys) → f = g ∧ xs = ys ∧ b = true) ∧ Below w.heap.size w w'
theorem table_words {g : Int} {ys : List Int} (h : tableB g ys = true) {l : List UInt8} (hl : l = numsL (g :: ys)) : cutL 32 l = (g :: ys).map decL ∧ (∀ m ∈ g :: ys, 0 ≤ m ∧ m ≤ 9999999999999) ∧ 3 ≤ (g :: ys).length := by
  obtain ⟨⟨g0, g1⟩, ⟨y0, y1⟩, hy⟩ := table_bounds h
  refine ⟨by rw [hl]; exact cut_nums _ (by simp), ?_, by rw [List.length_cons]; omega⟩
  intro m hm
  rcases List.mem_cons.1 hm with rfl | hm
  · omega
  · have := hy m hm; omega
theorem nums_is {l : List UInt8} {ns : List Int} (h : Nums (cutL 32 l) ns (cutL 32 l).length) {g : Int} {ys : List Int} (ht : tableB g ys = true) (hl : l = numsL (g :: ys)) : ns = g :: ys := by
  obtain ⟨h1, h2, _⟩ := table_words ht hl
  have h3 := h.forth _ h2 h1
  rw [h3, h1, List.length_map, List.take_length]
theorem nums_text {l : List UInt8} {f : Int} {xs : List Int} (h : Nums (cutL 32 l) (f :: xs) (cutL 32 l).length) (ht : tableB f xs = true) : l = numsL (f :: xs) := by
  obtain ⟨⟨f0, _⟩, _, hx⟩ := table_bounds ht
  apply words_nums
  apply List.ext_getElem?
  intro j
  rw [List.getElem?_map]
  have hlen := h.len
  rcases Nat.lt_or_ge j (f :: xs).length with hj | hj
  · obtain ⟨x, hxj⟩ := get_of_lt hj
    obtain ⟨p, hp⟩ := get_of_lt (xs := cutL 32 l) (k := j) (by omega)
    have h0 : 0 ≤ x := by
      rcases List.mem_cons.1 (List.mem_of_getElem? hxj) with h9 | h9
      · omega
      · exact (hx x h9).1
    rw [hxj, hp, h.back j x p hxj hp h0]; rfl
  · rw [List.getElem?_eq_none (by omega), List.getElem?_eq_none hj]; rfl
theorem drop_rows (f : Int) (xs : List Int) : (intRows (f :: xs)).drop 1 = intRows xs := by simp [intRows]
theorem rd_tail {w : World} {B g : Nat} {f : Int} {xs : List Int} (h : Rd w B (some ⟨g, 0, none⟩) 1 (intRows (f :: xs))) : Rd w B (some ⟨g, 1, none⟩) 1 (intRows xs) := by
  have h1 := h.cut 1
  rw [drop_rows] at h1
  simpa [add_none] using h1
theorem lies_far {w : World} {g b n o1 : Nat} {xs : List Int} (h : LiesT w (some ⟨g, o1, none⟩) n xs) (hne : b < g) (u v : Value) : LiesT ((w.setCell ⟨b, 0, none⟩ u).setCell ⟨b, 1, none⟩ v) (some ⟨g, o1, none⟩) n xs := by
  refine ⟨h.len, h.small, ?_, h.fits⟩
  rcases h.rd with h1 | ⟨ad, e, hb, hc⟩
  · exact .inl h1
  · injection e with e
    subst e
    refine .inr ⟨⟨g, o1, none⟩, rfl, by simpa using hb, fun k r hr => ⟨(hc k r hr).1, fun j x hx => ?_⟩⟩
    have h2 := (hc k r hr).2 j x hx
    rw [add_none] at h2 ⊢
    rw [World.cell?_setCell_other _ _ _ _ (fun e => by have := congrArg Addr.block e; simp at this; omega), World.cell?_setCell_other _ _ _ _ (fun e => by have := congrArg Addr.block e; simp at this; omega)]
    exact h2
theorem liesT_nil (w : World) : LiesT w none 0 [] := ⟨rfl, by omega, .inl rfl, by simp⟩

end Go.Proofs.YtkdfdbcpbgganaaGreatDoor
end
