/- Parts of a proof, one after another: Life3, PolS, Minus, PolS2. No condition. -/
import Derived.Test.YtkdfdbcpbgganaaGreatDoorK2
import Derived.Test.YtkdfdbcpbgganaaGreatDoorK4
import Derived.Test.YtkdfdbcpbgganaaGreatDoorK6
/- Sums of columns, values and premiums of assurances, codes: the reference's contracts. -/
section
namespace Go.Proofs.YtkdfdbcpbgganaaGreatDoor
open Go.RowKit Go.BigFrame

theorem Bas.size : (Tryz.prog.info? 40).map (·.size) = some 3 := by kernel_rfl


set_option maxHeartbeats 2000000 in
theorem spec_l05N_any (first : Int) (A : Option Addr) (n cap : Nat) (xs : List Int) (rate age : Int) (w : World) (hT : LiesT w A n xs) (T : TabOk first xs) (hr : 0 ≤ rate ∧ rate ≤ 200) (ha : first ≤ age ∧ age ≤ 500) :
    Calls Tryz.prog 40 #[.agg #[.int .i64 first, .slice A n cap], .int .i64 rate, .int .i64 age] w fun e w' => e = .returned (.int .i64 (nC xs rate (age - first).toNat)) ∧ Below w.heap.size w w' := by
  have hbw : Below w.heap.size w (w.alloc (.cells #[.int .i64 first, .slice A n cap] 26)) := (Below.refl _ w).alloc (Nat.le_refl _) _
  have HB := Lib.hid (Blk.new w 26 #[.int .i64 first, .slice A n cap])
  have HT := Lib.hid (hT.past hbw); clear hT
  have hn := HT.out.small
  have HL := Lib.hid HT.out.len
  obtain ⟨a1, a2⟩ := ha
  obtain ⟨r1, r2⟩ := hr
  obtain ⟨k, hk⟩ := Int.eq_ofNat_of_zero_le (show 0 ≤ age - first by omega)
  have HK := Lib.hid hk; clear hk
  have HE := Lib.hid (show (age - first).toNat = k by have := HK.out; omega)
  rw [HE.out]
  have T1 := T.first0; have T2 := T.first1; have T3 := T.len1; have T4 := T.len0
  rw [HL.out] at T3 T4
  have HTab := Lib.hid T; clear T
  have HSum := Lib.hid (fun j : Nat => dSumF_bound HTab.out r1 k j)
  have HDk := Lib.hid (dC_bound HTab.out r1 k)
  go_enter Tryz.func40, Tryz.ntmps40
  go_wp2
  go_loopw [7, 8] (fun s x wr => ∃ j : Nat, x = .int .i64 (age + (j : Int)) ∧ s = .int .i64 (sumF (dC xs rate) k j) ∧ (j = 0 ∨ k + j + 1 ≤ n) ∧ Below (w.heap.size + 1) (w.alloc (.cells #[.int .i64 first, .slice A n cap] 26)) wr) (fun _ x _ => (first + (n : Int) - 1 - intOf x).toNat)
  case atStart => exact ⟨0, by go_num, rfl, .inl rfl, Below.refl _ _⟩
  case round =>
    obtain ⟨j, rfl, rfl, hj, hb⟩ := hrel
    have hsz : w.heap.size + 1 ≤ wr.heap.size := by have := hb.size; simpa using this
    have HB1 := Lib.hid (HB.out.below hb (by omega))
    have HT1 := Lib.hid (HT.out.past (hb.mono (by simp)))
    have hc1 := Lib.hid (Blk.agg (cs := [.int .i64 first, .slice A n cap]) HB1.out 0 [.int .i64 first, .slice A n cap] rfl)
    have hj120 : (j : Int) ≤ 120 := by omega
    go_wp2_with (refine wpList_load_agg rfl 26 _ rfl ⟨w.heap.size, 0, none⟩ rfl [.int .i64 first, .slice A n cap] hc1.out _ Tryz.underlying26 rfl Tab.size ?_)
    refine (spec_l03End_any first A n cap _ hn ⟨T1, T2⟩).mono ?_
    rintro e w1 ⟨rfl, hb1⟩
    have hb2 : Below (w.heap.size + 1) (w.alloc (.cells #[.int .i64 first, .slice A n cap] 26)) w1 := hb.trans (hb1.mono hsz)
    have hsz1 : w.heap.size + 1 ≤ w1.heap.size := by have := hb2.size; simpa using this
    by_cases hlt : age + (j : Int) < first + (n : Int) - 1
    · have HB2 := Lib.hid (HB1.out.below' hb1)
      have HT2 := Lib.hid (HT1.out.past hb1)
      have hc2 := Lib.hid (Blk.agg (cs := [.int .i64 first, .slice A n cap]) HB2.out 0 [.int .i64 first, .slice A n cap] rfl)
      have hs0 := HSum.out j
      have hs1 := HSum.out (j + 1)
      have HS1 := Lib.hid (sumF_snoc (dC xs rate) k j)
      have hd0 := HDk.out
      have hm1 : (j : Int) * dC xs rate k ≤ 120 * 1000000000000000 := Int.mul_le_mul hj120 hd0.2 hd0.1 (by omega)
      rw [HS1.out] at hs1
      obtain ⟨b1, b2⟩ := dC_bound HTab.out r1 (k + j)
      obtain ⟨s1, s2⟩ := hs0
      obtain ⟨s3, s4⟩ := hs1
      go_wp2_with (refine wpList_load_agg rfl 26 _ rfl ⟨w.heap.size, 0, none⟩ rfl [.int .i64 first, .slice A n cap] hc2.out _ Tryz.underlying26 rfl Tab.size ?_)
      refine (spec_l05D_any first A n cap xs rate (age + (j : Int)) _ HT2.out HTab.out ⟨r1, r2⟩ ⟨by omega, by omega⟩).mono ?_
      rw [show (age + (j : Int) - first).toNat = k + j by have := HK.out; omega]
      rintro e w2 ⟨rfl, hb3⟩
      go_wp2
      go_roundw
      case rel => exact ⟨j + 1, by go_num, by rw [HS1.out], .inr (by have := HK.out; omega), hb2.trans (hb3.mono hsz1)⟩
      case measure => simp [intOf]; omega
    · have Q := Lib.hid (show sumF (dC xs rate) k j = nC xs rate k from nC_any HTab.out k j (by have := HK.out; have := HL.out; omega))
      go_wp2
      go_ret
      exact ⟨by rw [Q.out]; rfl, hbw.trans (hb2.mono (by omega))⟩


set_option maxHeartbeats 2000000 in
theorem spec_l05M_any (first : Int) (A : Option Addr) (n cap : Nat) (xs : List Int) (rate age : Int) (w : World) (hT : LiesT w A n xs) (T : TabOk first xs) (hr : 0 ≤ rate ∧ rate ≤ 200) (ha : first ≤ age ∧ age ≤ 500) :
    Calls Tryz.prog 162 #[.agg #[.int .i64 first, .slice A n cap], .int .i64 rate, .int .i64 age] w fun e w' => e = .returned (.int .i64 (mC xs rate (age - first).toNat)) ∧ Below w.heap.size w w' := by
  have hbw : Below w.heap.size w (w.alloc (.cells #[.int .i64 first, .slice A n cap] 26)) := (Below.refl _ w).alloc (Nat.le_refl _) _
  have HB := Lib.hid (Blk.new w 26 #[.int .i64 first, .slice A n cap])
  have HT := Lib.hid (hT.past hbw); clear hT
  have hn := HT.out.small
  have HL := Lib.hid HT.out.len
  obtain ⟨a1, a2⟩ := ha
  obtain ⟨r1, r2⟩ := hr
  obtain ⟨k, hk⟩ := Int.eq_ofNat_of_zero_le (show 0 ≤ age - first by omega)
  have HK := Lib.hid hk; clear hk
  have HE := Lib.hid (show (age - first).toNat = k by have := HK.out; omega)
  rw [HE.out]
  have T1 := T.first0; have T2 := T.first1; have T3 := T.len1; have T4 := T.len0
  rw [HL.out] at T3 T4
  have HTab := Lib.hid T; clear T
  have HSum := Lib.hid (fun j : Nat => cSumF_bound HTab.out r1 k j)
  have HDk := Lib.hid (dC_bound HTab.out r1 k)
  go_enter Tryz.func162, Tryz.ntmps162
  go_wp2
  go_loopw [7, 8] (fun s x wr => ∃ j : Nat, x = .int .i64 (age + (j : Int)) ∧ s = .int .i64 (sumF (cC xs rate) k j) ∧ (j = 0 ∨ k + j + 1 ≤ n) ∧ Below (w.heap.size + 1) (w.alloc (.cells #[.int .i64 first, .slice A n cap] 26)) wr) (fun _ x _ => (first + (n : Int) - 1 - intOf x).toNat)
  case atStart => exact ⟨0, by go_num, rfl, .inl rfl, Below.refl _ _⟩
  case round =>
    obtain ⟨j, rfl, rfl, hj, hb⟩ := hrel
    have hsz : w.heap.size + 1 ≤ wr.heap.size := by have := hb.size; simpa using this
    have HB1 := Lib.hid (HB.out.below hb (by omega))
    have HT1 := Lib.hid (HT.out.past (hb.mono (by simp)))
    have hc1 := Lib.hid (Blk.agg (cs := [.int .i64 first, .slice A n cap]) HB1.out 0 [.int .i64 first, .slice A n cap] rfl)
    have hj120 : (j : Int) ≤ 120 := by omega
    go_wp2_with (refine wpList_load_agg rfl 26 _ rfl ⟨w.heap.size, 0, none⟩ rfl [.int .i64 first, .slice A n cap] hc1.out _ Tryz.underlying26 rfl Tab.size ?_)
    refine (spec_l03End_any first A n cap _ hn ⟨T1, T2⟩).mono ?_
    rintro e w1 ⟨rfl, hb1⟩
    have hb2 : Below (w.heap.size + 1) (w.alloc (.cells #[.int .i64 first, .slice A n cap] 26)) w1 := hb.trans (hb1.mono hsz)
    have hsz1 : w.heap.size + 1 ≤ w1.heap.size := by have := hb2.size; simpa using this
    by_cases hlt : age + (j : Int) < first + (n : Int) - 1
    · have HB2 := Lib.hid (HB1.out.below' hb1)
      have HT2 := Lib.hid (HT1.out.past hb1)
      have hc2 := Lib.hid (Blk.agg (cs := [.int .i64 first, .slice A n cap]) HB2.out 0 [.int .i64 first, .slice A n cap] rfl)
      have hs0 := HSum.out j
      have hs1 := HSum.out (j + 1)
      have HS1 := Lib.hid (sumF_snoc (cC xs rate) k j)
      have hd0 := HDk.out
      have hm1 : (j : Int) * dC xs rate k ≤ 120 * 1000000000000000 := Int.mul_le_mul hj120 hd0.2 hd0.1 (by omega)
      rw [HS1.out] at hs1
      obtain ⟨b1, b2⟩ := cC_bound HTab.out r1 (k + j)
      obtain ⟨b3, b4⟩ := dC_bound HTab.out r1 (k + j)
      obtain ⟨b5, b6⟩ := dC_bound HTab.out r1 (k + j + 1)
      obtain ⟨s1, s2⟩ := hs0
      obtain ⟨s3, s4⟩ := hs1
      go_wp2_with (refine wpList_load_agg rfl 26 _ rfl ⟨w.heap.size, 0, none⟩ rfl [.int .i64 first, .slice A n cap] hc2.out _ Tryz.underlying26 rfl Tab.size ?_)
      refine (spec_l05C_any first A n cap xs rate (age + (j : Int)) _ HT2.out HTab.out ⟨r1, r2⟩ ⟨by omega, by omega⟩).mono ?_
      rw [show (age + (j : Int) - first).toNat = k + j by have := HK.out; omega]
      rintro e w2 ⟨rfl, hb3⟩
      go_wp2
      go_roundw
      case rel => exact ⟨j + 1, by go_num, by rw [HS1.out], .inr (by have := HK.out; omega), hb2.trans (hb3.mono hsz1)⟩
      case measure => simp [intOf]; omega
    · have Q := Lib.hid (show sumF (cC xs rate) k j = mC xs rate k from mC_any HTab.out k j (by have := HK.out; have := HL.out; omega))
      go_wp2
      go_ret
      exact ⟨by rw [Q.out]; rfl, hbw.trans (hb2.mono (by omega))⟩


set_option maxHeartbeats 2000000 in
theorem spec_l07Top_any (first : Int) (A : Option Addr) (n cap : Nat) (xs : List Int) (rate kind age yrs : Int) (w : World) (hT : LiesT w A n xs) (T : TabOk first xs) (hr : 0 ≤ rate ∧ rate ≤ 200) (ha : first ≤ age ∧ age ≤ 300) (hy : 0 ≤ yrs ∧ age + yrs ≤ 420) :
    Calls Tryz.prog 142 #[.agg #[.int .i64 first, .slice A n cap], .int .i64 rate, .int .i64 kind, .int .i64 age, .int .i64 yrs] w fun e w' => e = .returned (.int .i64 (topF xs rate kind (age - first).toNat yrs.toNat)) ∧ Below w.heap.size w w' := by
  have hbw : Below w.heap.size w (w.alloc (.cells #[.int .i64 first, .slice A n cap] 26)) := (Below.refl _ w).alloc (Nat.le_refl _) _
  have HB := Lib.hid (Blk.new w 26 #[.int .i64 first, .slice A n cap])
  have HT := Lib.hid (hT.past hbw); clear hT
  have HL := Lib.hid HT.out.len
  obtain ⟨a1, a2⟩ := ha
  obtain ⟨r1, r2⟩ := hr
  obtain ⟨y1, y2⟩ := hy
  obtain ⟨k, hk⟩ := Int.eq_ofNat_of_zero_le (show 0 ≤ age - first by omega)
  obtain ⟨m, hm⟩ := Int.eq_ofNat_of_zero_le y1
  have T1 := T.first0; have T2 := T.first1
  have hE0 : (age - first).toNat = k := by omega
  have hE1 : (age + yrs - first).toNat = k + m := by omega
  have hEm : yrs.toNat = m := by omega
  rw [hE0, hEm]
  clear hk hm hEm
  have HTab := Lib.hid T; clear T
  have hcs := Lib.hid (Blk.agg_past (cs := [.int .i64 first, .slice A n cap]) HB.out 0 [.int .i64 first, .slice A n cap] rfl)
  obtain ⟨b1, b2⟩ := mC_bound HTab.out r1 k
  obtain ⟨b3, b4⟩ := dC_bound HTab.out r1 k
  obtain ⟨b5, b6⟩ := mC_bound HTab.out r1 (k + m)
  obtain ⟨b7, b8⟩ := dC_bound HTab.out r1 (k + m)
  by_cases h0 : kind = 0
  · subst h0
    have Q := Lib.hid (show topF xs rate 0 k m = mC xs rate k by simp [topF])
    go_enter Tryz.func142, Tryz.ntmps142
    go_wp2_with fail
    refine (spec_l05M_any first A n cap xs rate age _ HT.out HTab.out ⟨r1, r2⟩ ⟨by omega, by omega⟩).mono ?_
    rw [hE0]
    rintro e w1 ⟨rfl, hb1⟩
    go_wp2
    go_ret
    exact ⟨by rw [Q.out]; rfl, hbw.trans (hb1.mono (by simp))⟩
  by_cases h1 : kind = 1
  · subst h1
    have Q := Lib.hid (show topF xs rate 1 k m = mC xs rate k - mC xs rate (k + m) by simp [topF])
    go_enter Tryz.func142, Tryz.ntmps142
    go_wp2
    refine wp_region_past (by kernel_rfl) (by kernel_rfl) ?_
    repeat (first | (go_big_quiet_want; (first | (refine quiet_load_agg 26 _ rfl ⟨w.heap.size, 0, none⟩ rfl [.int .i64 first, .slice A n cap] hcs.out _ Tryz.underlying26 rfl Tab.size ?_)); go_simp; go_big_quiet_on) | go_big_quiet_step ((go_at_call 162; exact past_call (spec_l05M_any first A n cap xs rate _ _ (HT.out.at_past _) HTab.out ⟨by omega, by omega⟩ ⟨by omega, by omega⟩))))
    refine wpQuiet_nil ?_
    rintro _ ⟨y, rfl⟩
    go_wp2
    go_ret
    exact ⟨by rw [Q.out]; rfl, hbw.trans (y.2.mono (by simp))⟩
  by_cases h2 : kind = 2
  · subst h2
    have Q := Lib.hid (show topF xs rate 2 k m = mC xs rate k - mC xs rate (k + m) + dC xs rate (k + m) by simp [topF])
    go_enter Tryz.func142, Tryz.ntmps142
    go_wp2
    refine wp_region_past (by kernel_rfl) (by kernel_rfl) ?_
    repeat (first | (go_big_quiet_want; (first | (refine quiet_load_agg 26 _ rfl ⟨w.heap.size, 0, none⟩ rfl [.int .i64 first, .slice A n cap] hcs.out _ Tryz.underlying26 rfl Tab.size ?_)); go_simp; go_big_quiet_on) | go_big_quiet_step ((first | (go_at_call 162; exact past_call (spec_l05M_any first A n cap xs rate _ _ (HT.out.at_past _) HTab.out ⟨by omega, by omega⟩ ⟨by omega, by omega⟩)) | (go_at_call 39; exact past_call (spec_l05D_any first A n cap xs rate _ _ (HT.out.at_past _) HTab.out ⟨by omega, by omega⟩ ⟨by omega, by omega⟩)))))
    refine wpQuiet_nil ?_
    rintro _ ⟨y, rfl⟩
    go_wp2
    go_ret
    exact ⟨by rw [Q.out]; rfl, hbw.trans (y.2.mono (by simp))⟩
  have Q := Lib.hid (show topF xs rate kind k m = dC xs rate (k + m) by simp [topF, h0, h1, h2])
  go_enter Tryz.func142, Tryz.ntmps142
  go_wp2_with fail
  refine (spec_l05D_any first A n cap xs rate (age + yrs) _ HT.out HTab.out ⟨r1, r2⟩ ⟨by omega, by omega⟩).mono ?_
  rw [hE1]
  rintro e w1 ⟨rfl, hb1⟩
  go_wp2
  go_ret
  exact ⟨by rw [Q.out]; rfl, hbw.trans (hb1.mono (by simp))⟩

set_option maxHeartbeats 2000000 in
theorem spec_l07Base_any (first : Int) (A : Option Addr) (n cap : Nat) (xs : List Int) (rate kind age yrs : Int) (w : World) (hT : LiesT w A n xs) (T : TabOk first xs) (hr : 0 ≤ rate ∧ rate ≤ 200) (ha : first ≤ age ∧ age ≤ 300) (hy : 0 ≤ yrs ∧ age + yrs ≤ 420) :
    Calls Tryz.prog 143 #[.agg #[.int .i64 first, .slice A n cap], .int .i64 rate, .int .i64 kind, .int .i64 age, .int .i64 yrs] w fun e w' => e = .returned (.int .i64 (baseF xs rate kind (age - first).toNat yrs.toNat)) ∧ Below w.heap.size w w' := by
  have hbw : Below w.heap.size w (w.alloc (.cells #[.int .i64 first, .slice A n cap] 26)) := (Below.refl _ w).alloc (Nat.le_refl _) _
  have HB := Lib.hid (Blk.new w 26 #[.int .i64 first, .slice A n cap])
  have HT := Lib.hid (hT.past hbw); clear hT
  have HL := Lib.hid HT.out.len
  obtain ⟨a1, a2⟩ := ha
  obtain ⟨r1, r2⟩ := hr
  obtain ⟨y1, y2⟩ := hy
  obtain ⟨k, hk⟩ := Int.eq_ofNat_of_zero_le (show 0 ≤ age - first by omega)
  obtain ⟨m, hm⟩ := Int.eq_ofNat_of_zero_le y1
  have T1 := T.first0; have T2 := T.first1
  have hE0 : (age - first).toNat = k := by omega
  have hE1 : (age + yrs - first).toNat = k + m := by omega
  have hEm : yrs.toNat = m := by omega
  rw [hE0, hEm]
  clear hk hm hEm
  have HTab := Lib.hid T; clear T
  have hcs := Lib.hid (Blk.agg_past (cs := [.int .i64 first, .slice A n cap]) HB.out 0 [.int .i64 first, .slice A n cap] rfl)
  obtain ⟨b1, b2⟩ := nC_bound HTab.out r1 k
  obtain ⟨b3, b4⟩ := dC_bound HTab.out r1 k
  obtain ⟨b5, b6⟩ := nC_bound HTab.out r1 (k + m)
  obtain ⟨b7, b8⟩ := dC_bound HTab.out r1 (k + m)
  by_cases h0 : kind = 0
  · subst h0
    have Q := Lib.hid (show baseF xs rate 0 k m = nC xs rate k by simp [baseF])
    go_enter Tryz.func143, Tryz.ntmps143
    go_wp2_with fail
    refine (spec_l05N_any first A n cap xs rate age _ HT.out HTab.out ⟨r1, r2⟩ ⟨by omega, by omega⟩).mono ?_
    rw [hE0]
    rintro e w1 ⟨rfl, hb1⟩
    go_wp2
    go_ret
    exact ⟨by rw [Q.out]; rfl, hbw.trans (hb1.mono (by simp))⟩
  have Q := Lib.hid (show baseF xs rate kind k m = nC xs rate k - nC xs rate (k + m) by simp [baseF, h0])
  go_enter Tryz.func143, Tryz.ntmps143
  go_wp2
  refine wp_region_past (by kernel_rfl) (by kernel_rfl) ?_
  repeat (first | (go_big_quiet_want; (first | (refine quiet_load_agg 26 _ rfl ⟨w.heap.size, 0, none⟩ rfl [.int .i64 first, .slice A n cap] hcs.out _ Tryz.underlying26 rfl Tab.size ?_)); go_simp; go_big_quiet_on) | go_big_quiet_step ((go_at_call 40; exact past_call (spec_l05N_any first A n cap xs rate _ _ (HT.out.at_past _) HTab.out ⟨by omega, by omega⟩ ⟨by omega, by omega⟩))))
  refine wpQuiet_nil ?_
  rintro _ ⟨y, rfl⟩
  go_wp2
  go_ret
  exact ⟨by rw [Q.out]; rfl, hbw.trans (y.2.mono (by simp))⟩

/-- the reference's rounded-up quotient, where the quotient is not too great -/
theorem spec_l05Up_any (a b c : Int) (w : World) (ha : 0 ≤ a ∧ a < 4398046511104) (hb : 0 ≤ b ∧ b ≤ 1000000000000000000) (hc : 1 ≤ c ∧ c ≤ 1000000000000000000) (hq : a * b / c ≤ 1000000000000000000) :
    Calls Tryz.prog 38 #[.int .i64 a, .int .i64 b, .int .i64 c] w fun e w' => e = .returned (.int .i64 (upP a b c)) ∧ w = w' := by
  have Q := Lib.hid (show ldP a b c = (a * b / c, a * b % c) by unfold ldP; rw [if_pos hq])
  have h1 : 0 ≤ a * b / c := Int.ediv_nonneg (Int.mul_nonneg ha.1 hb.1) (by omega)
  have h2 : 0 ≤ a * b % c := Int.emod_nonneg _ (by omega)
  have QU := Lib.hid (show upP a b c = a * b / c + (if 0 < a * b % c then 1 else 0) from rfl)
  generalize a * b / c = q at *
  generalize a * b % c = r at *
  by_cases hr : 0 < r
  · rw [if_pos hr] at QU
    have hr1 : 1 ≤ r := hr
    have hmn : min 1 r = 1 := by omega
    go_enter Tryz.func38, Tryz.ntmps38
    go_wp2_with fail
    refine (spec_l05Divide_any a b c _ ha hb hc).mono ?_
    rw [Q.out]
    rintro e w1 ⟨rfl, rfl⟩
    go_wp2
    all_goals (go_ret; exact ⟨by rw [QU.out]; first | rfl | (exfalso; omega) | (congr 2; omega) | (congr 2; split <;> omega) , rfl⟩)
  · rw [if_neg hr] at QU
    have hr1 : r = 0 := by omega
    subst hr1
    go_enter Tryz.func38, Tryz.ntmps38
    go_wp2_with fail
    refine (spec_l05Divide_any a b c _ ha hb hc).mono ?_
    rw [Q.out]
    rintro e w1 ⟨rfl, rfl⟩
    go_wp2
    go_ret
    exact ⟨by rw [QU.out]; first | rfl | (congr 2; omega), rfl⟩


set_option maxHeartbeats 2000000 in
theorem spec_l07Level_any (first : Int) (A : Option Addr) (n cap : Nat) (xs : List Int) (rate kind age yrs sum : Int) (w : World) (hT : LiesT w A n xs) (T : TabOk first xs) (hr : 0 ≤ rate ∧ rate ≤ 200) (ha : first ≤ age ∧ age ≤ 300) (hy : 0 ≤ yrs ∧ yrs ≤ 120)
    (hs : 0 ≤ sum ∧ sum ≤ 100000000) (hk : kind = 0 ∨ 1 ≤ yrs) (hd : 1 ≤ dC xs rate (age - first).toNat) :
    Calls Tryz.prog 121 #[.agg #[.int .i64 first, .slice A n cap], .int .i64 rate, .int .i64 kind, .int .i64 age, .int .i64 yrs, .int .i64 sum] w fun e w' =>
      e = .returned (.int .i64 (upP sum (topF xs rate kind (age - first).toNat yrs.toNat) (baseF xs rate kind (age - first).toNat yrs.toNat))) ∧ Below w.heap.size w w' := by
  have hbw : Below w.heap.size w (w.alloc (.cells #[.int .i64 first, .slice A n cap] 26)) := (Below.refl _ w).alloc (Nat.le_refl _) _
  have HB := Lib.hid (Blk.new w 26 #[.int .i64 first, .slice A n cap])
  have HT := Lib.hid (hT.past hbw); clear hT
  obtain ⟨r1, r2⟩ := hr
  obtain ⟨s1, s2⟩ := hs
  have t1 := topF_bound T r1 kind (age - first).toNat yrs.toNat
  have t2 := baseF_bound T r1 kind (age - first).toNat yrs.toNat (by omega)
  have t3 := baseF_pos T r1 kind (age - first).toNat yrs.toNat (by omega)
  have t4 := dC_bound T r1 (age - first).toNat
  have t5 := mul_div_le (a := sum) (m := 1) s1 t1.1 (show 1 ≤ baseF xs rate kind (age - first).toNat yrs.toNat by omega) (by omega)
  have HTab := Lib.hid T; clear T
  have hcs := Lib.hid (Blk.agg_past (cs := [.int .i64 first, .slice A n cap]) HB.out 0 [.int .i64 first, .slice A n cap] rfl)
  go_enter Tryz.func121, Tryz.ntmps121
  go_wp2
  refine wp_region_past (by kernel_rfl) (by kernel_rfl) ?_
  repeat (first | (go_big_quiet_want; (first | (refine quiet_load_agg 26 _ rfl ⟨w.heap.size, 0, none⟩ rfl [.int .i64 first, .slice A n cap] hcs.out _ Tryz.underlying26 rfl Tab.size ?_)); go_simp; go_big_quiet_on) | go_big_quiet_step ((first | (go_at_call 142; exact past_call (spec_l07Top_any first A n cap xs rate kind age yrs _ (HT.out.at_past _) HTab.out ⟨r1, r2⟩ ⟨by omega, by omega⟩ ⟨by omega, by omega⟩)) | (go_at_call 143; exact past_call (spec_l07Base_any first A n cap xs rate kind age yrs _ (HT.out.at_past _) HTab.out ⟨r1, r2⟩ ⟨by omega, by omega⟩ ⟨by omega, by omega⟩)) | (go_at_call 38; exact past_same (spec_l05Up_any sum _ _ _ ⟨by omega, by omega⟩ ⟨by omega, by omega⟩ ⟨by omega, by omega⟩ (by omega))))))
  refine wpQuiet_nil ?_
  rintro _ ⟨y, rfl⟩
  go_wp2
  go_ret
  exact ⟨rfl, hbw.trans (y.2.mono (by simp))⟩

/-- the codes of the arguments, as the reference asks them -/
def code5 (first : Int) (xs : List Int) (rate age : Int) : Int := if tableB first xs = true then (if inR rate 0 200 = true ∧ inR age first 150 = true then 0 else 2) else 1
def code6 (first : Int) (xs : List Int) (rate age : Int) (b : Bool) (yrs : Int) : Int :=
  if code5 first xs rate age = 0 then (if b = true ∧ inR yrs 0 120 = true ∧ age + yrs ≤ 150 then (if dC xs rate (age - first).toNat = 0 then 5 else 0) else 2) else code5 first xs rate age
theorem code5_ok {first : Int} {xs : List Int} {rate age : Int} (h : code5 first xs rate age = 0) : TabOk first xs ∧ (0 ≤ rate ∧ rate ≤ 200) ∧ first ≤ age ∧ age ≤ 150 := by
  unfold code5 at h
  by_cases h1 : tableB first xs = true
  · rw [if_pos h1] at h
    by_cases h2 : inR rate 0 200 = true ∧ inR age first 150 = true
    · exact ⟨table_ok h1, inR_true.1 h2.1, inR_true.1 h2.2⟩
    · rw [if_neg h2] at h; omega
  · rw [if_neg h1] at h; omega

set_option maxHeartbeats 2000000 in
theorem spec_l05Code_any (first : Int) (A : Option Addr) (n cap : Nat) (xs : List Int) (rate age : Int) (w : World) (hT : LiesT w A n xs) (hcap : n ≤ cap) (hf : In64 first) :
    Calls Tryz.prog 107 #[.agg #[.int .i64 first, .slice A n cap], .int .i64 rate, .int .i64 age] w fun e w' => e = .returned (.int .i64 (code5 first xs rate age)) ∧ Below w.heap.size w w' := by
  have hbw : Below w.heap.size w (w.alloc (.cells #[.int .i64 first, .slice A n cap] 26)) := (Below.refl _ w).alloc (Nat.le_refl _) _
  have HB := Lib.hid (Blk.new w 26 #[.int .i64 first, .slice A n cap])
  have HT := Lib.hid (hT.past hbw); clear hT
  cases h1 : tableB first xs
  · have Q := Lib.hid (show code5 first xs rate age = 1 by simp [code5, h1])
    go_enter Tryz.func107, Tryz.ntmps107
    go_wp2_with fail
    refine (spec_IsLifeTable_any first A n cap xs _ HT.out hcap hf).mono ?_
    rw [h1]
    rintro e w1 ⟨rfl, hb1⟩
    go_wp2
    go_ret
    exact ⟨by rw [Q.out]; rfl, hbw.trans (hb1.mono (by simp))⟩
  cases h2 : inR rate 0 200
  · have Q := Lib.hid (show code5 first xs rate age = 2 by simp [code5, h1, h2])
    go_enter Tryz.func107, Tryz.ntmps107
    go_wp2_with fail
    refine (spec_IsLifeTable_any first A n cap xs _ HT.out hcap hf).mono ?_
    rw [h1]
    rintro e w1 ⟨rfl, hb1⟩
    go_wp2_with (first | (go_at_call 117; refine (spec_l04Rate_any _ _).mono ?_; rintro e w' ⟨rfl, rfl⟩))
    go_ret
    exact ⟨by rw [Q.out]; rfl, hbw.trans (hb1.mono (by simp))⟩
  cases h3 : inR age first 150
  · have Q := Lib.hid (show code5 first xs rate age = 2 by simp [code5, h1, h2, h3])
    go_enter Tryz.func107, Tryz.ntmps107
    go_wp2_with fail
    refine (spec_IsLifeTable_any first A n cap xs _ HT.out hcap hf).mono ?_
    rw [h1]
    rintro e w1 ⟨rfl, hb1⟩
    have c0 : w1.cell? ⟨w.heap.size, 0, none⟩ = some (.int .i64 first) := (HB.out.below' hb1).cell 0
    go_wp2_with (first | (go_at_call 117; refine (spec_l04Rate_any _ _).mono ?_; rintro e w' ⟨rfl, rfl⟩) | (go_at_call 72; refine (spec_l01In_any _ _ _ _).mono ?_; rintro e w' ⟨rfl, rfl⟩))
    go_ret
    exact ⟨by rw [Q.out]; rfl, hbw.trans (hb1.mono (by simp))⟩
  · have Q := Lib.hid (show code5 first xs rate age = 0 by simp [code5, h1, h2, h3])
    go_enter Tryz.func107, Tryz.ntmps107
    go_wp2_with fail
    refine (spec_IsLifeTable_any first A n cap xs _ HT.out hcap hf).mono ?_
    rw [h1]
    rintro e w1 ⟨rfl, hb1⟩
    have c0 : w1.cell? ⟨w.heap.size, 0, none⟩ = some (.int .i64 first) := (HB.out.below' hb1).cell 0
    go_wp2_with (first | (go_at_call 117; refine (spec_l04Rate_any _ _).mono ?_; rintro e w' ⟨rfl, rfl⟩) | (go_at_call 72; refine (spec_l01In_any _ _ _ _).mono ?_; rintro e w' ⟨rfl, rfl⟩))
    go_ret
    exact ⟨by rw [Q.out]; rfl, hbw.trans (hb1.mono (by simp))⟩

set_option maxHeartbeats 2000000 in
theorem spec_l06Code_any (first : Int) (A : Option Addr) (n cap : Nat) (xs : List Int) (rate age : Int) (b : Bool) (yrs : Int) (w : World) (hT : LiesT w A n xs) (hcap : n ≤ cap) (hf : In64 first) :
    Calls Tryz.prog 71 #[.agg #[.int .i64 first, .slice A n cap], .int .i64 rate, .int .i64 age, .bool b, .int .i64 yrs] w fun e w' => e = .returned (.int .i64 (code6 first xs rate age b yrs)) ∧ Below w.heap.size w w' := by
  have hbw : Below w.heap.size w (w.alloc (.cells #[.int .i64 first, .slice A n cap] 26)) := (Below.refl _ w).alloc (Nat.le_refl _) _
  have HB := Lib.hid (Blk.new w 26 #[.int .i64 first, .slice A n cap])
  have HT := Lib.hid (hT.past hbw); clear hT
  by_cases h5 : code5 first xs rate age = 0
  rotate_left
  · have Q := Lib.hid (show code6 first xs rate age b yrs = code5 first xs rate age by unfold code6; rw [if_neg h5])
    go_enter Tryz.func71, Tryz.ntmps71
    go_wp2_with fail
    refine (spec_l05Code_any first A n cap xs rate age _ HT.out hcap hf).mono ?_
    rintro e w1 ⟨rfl, hb1⟩
    go_wp2
    go_ret
    exact ⟨by rw [Q.out]; rfl, hbw.trans (hb1.mono (by simp))⟩
  have H5 := Lib.hid h5
  obtain ⟨T, ⟨r1, r2⟩, a1, a2⟩ := code5_ok h5
  have HTab := Lib.hid T; clear T
  clear h5
  by_cases hin : b = true ∧ inR yrs 0 120 = true ∧ age + yrs ≤ 150
  rotate_left
  · have Q := Lib.hid (show code6 first xs rate age b yrs = 2 by unfold code6; rw [if_pos H5.out, if_neg hin])
    cases b
    · go_enter Tryz.func71, Tryz.ntmps71
      go_wp2_with fail
      refine (spec_l05Code_any first A n cap xs rate age _ HT.out hcap hf).mono ?_
      rw [H5.out]
      rintro e w1 ⟨rfl, hb1⟩
      go_wp2
      go_ret
      exact ⟨by rw [Q.out]; rfl, hbw.trans (hb1.mono (by simp))⟩
    cases hy : inR yrs 0 120
    · go_enter Tryz.func71, Tryz.ntmps71
      go_wp2_with fail
      refine (spec_l05Code_any first A n cap xs rate age _ HT.out hcap hf).mono ?_
      rw [H5.out]
      rintro e w1 ⟨rfl, hb1⟩
      go_wp2_with (first | (go_at_call 72; refine (spec_l01In_any _ _ _ _).mono ?_; rintro e w' ⟨rfl, rfl⟩))
      go_ret
      exact ⟨by rw [Q.out]; rfl, hbw.trans (hb1.mono (by simp))⟩
    have hyy := inR_true.1 hy
    have hlate : ¬ age + yrs ≤ 150 := fun h => hin ⟨rfl, hy, h⟩
    obtain ⟨y1, y2⟩ := hyy
    clear hin
    have T0 := HTab.out.first0
    go_enter Tryz.func71, Tryz.ntmps71
    go_wp2_with fail
    refine (spec_l05Code_any first A n cap xs rate age _ HT.out hcap hf).mono ?_
    rw [H5.out]
    rintro e w1 ⟨rfl, hb1⟩
    go_wp2_with (first | (go_at_call 72; refine (spec_l01In_any _ _ _ _).mono ?_; rintro e w' ⟨rfl, rfl⟩))
    go_ret
    exact ⟨by rw [Q.out]; rfl, hbw.trans (hb1.mono (by simp))⟩
  have HIN := Lib.hid hin
  obtain ⟨rfl, hy, he⟩ := hin
  have T0 := HTab.out.first0
  obtain ⟨y1, y2⟩ := inR_true.1 hy
  by_cases hd : dC xs rate (age - first).toNat = 0
  · have Q := Lib.hid (show code6 first xs rate age true yrs = 5 by unfold code6; rw [if_pos H5.out, if_pos HIN.out, if_pos hd])
    have HD := Lib.hid hd; clear hd
    go_enter Tryz.func71, Tryz.ntmps71
    go_wp2_with fail
    refine (spec_l05Code_any first A n cap xs rate age _ HT.out hcap hf).mono ?_
    rw [H5.out]
    rintro e w1 ⟨rfl, hb1⟩
    have HB1 := Lib.hid (HB.out.below' hb1)
    have hc1 := Lib.hid (Blk.agg (cs := [.int .i64 first, .slice A n cap]) HB1.out 0 [.int .i64 first, .slice A n cap] rfl)
    have HT1 := Lib.hid (HT.out.past hb1)
    go_wp2_with (first | (go_at_call 72; refine (spec_l01In_any _ _ _ _).mono ?_; rintro e w' ⟨rfl, rfl⟩) | (refine wpList_load_agg rfl 26 _ rfl ⟨w.heap.size, 0, none⟩ rfl [.int .i64 first, .slice A n cap] hc1.out _ Tryz.underlying26 rfl Tab.size ?_))
    refine (spec_l05D_any first A n cap xs rate age _ HT1.out HTab.out ⟨r1, r2⟩ ⟨by omega, by omega⟩).mono ?_
    rw [HD.out]
    rintro e w2 ⟨rfl, hb2⟩
    go_wp2
    go_ret
    exact ⟨by rw [Q.out]; rfl, hbw.trans ((hb1.mono (by simp)).trans (hb2.mono (by have := hb1.size; simp at this; omega)))⟩
  · have Q := Lib.hid (show code6 first xs rate age true yrs = 0 by unfold code6; rw [if_pos H5.out, if_pos HIN.out, if_neg hd])
    go_enter Tryz.func71, Tryz.ntmps71
    go_wp2_with fail
    refine (spec_l05Code_any first A n cap xs rate age _ HT.out hcap hf).mono ?_
    rw [H5.out]
    rintro e w1 ⟨rfl, hb1⟩
    have HB1 := Lib.hid (HB.out.below' hb1)
    have hc1 := Lib.hid (Blk.agg (cs := [.int .i64 first, .slice A n cap]) HB1.out 0 [.int .i64 first, .slice A n cap] rfl)
    have HT1 := Lib.hid (HT.out.past hb1)
    go_wp2_with (first | (go_at_call 72; refine (spec_l01In_any _ _ _ _).mono ?_; rintro e w' ⟨rfl, rfl⟩) | (refine wpList_load_agg rfl 26 _ rfl ⟨w.heap.size, 0, none⟩ rfl [.int .i64 first, .slice A n cap] hc1.out _ Tryz.underlying26 rfl Tab.size ?_))
    refine (spec_l05D_any first A n cap xs rate age _ HT1.out HTab.out ⟨r1, r2⟩ ⟨by omega, by omega⟩).mono ?_
    rintro e w2 ⟨rfl, hb2⟩
    go_wp2
    go_ret
    exact ⟨by rw [Q.out]; rfl, hbw.trans ((hb1.mono (by simp)).trans (hb2.mono (by have := hb1.size; simp at this; omega)))⟩

end Go.Proofs.YtkdfdbcpbgganaaGreatDoor
end

/- Policies: whether they are valid, premiums, durations: the reference's contracts. -/
section
namespace Go.Proofs.YtkdfdbcpbgganaaGreatDoor
open Go.RowKit Go.BigFrame

def fitsB (kind yrs : Int) : Bool := inR kind 0 3 && ((kind == 0) == (yrs == 0))
theorem fitsB_true {kind yrs : Int} : fitsB kind yrs = true ↔ (0 ≤ kind ∧ kind ≤ 3) ∧ (kind = 0 ↔ yrs = 0) := by
  simp only [fitsB, Bool.and_eq_true, inR_true, beq_iff_eq]
  constructor
  · rintro ⟨h1, h2⟩
    refine ⟨h1, ?_⟩
    have : ((kind == 0) = true ↔ (yrs == 0) = true) := by rw [h2]
    simpa using this
  · rintro ⟨h1, h2⟩
    refine ⟨h1, ?_⟩
    by_cases h : kind = 0
    · have := h2.1 h; simp [h, this]
    · have h3 : ¬ yrs = 0 := fun e => h (h2.2 e)
      have e1 : (kind == 0) = false := by simp [h]
      have e2 : (yrs == 0) = false := by simp [h3]
      rw [e1, e2]
theorem inR_bool (n lo hi : Int) (h : ¬ inR n lo hi = true) : inR n lo hi = false := by simpa using h

set_option maxHeartbeats 2000000 in
theorem spec_l07Code_any (first : Int) (A : Option Addr) (n cap : Nat) (xs : List Int) (rate kind age yrs : Int) (b : Bool) (w : World) (hT : LiesT w A n xs) (hcap : n ≤ cap) (hf : In64 first) :
    Calls Tryz.prog 93 #[.agg #[.int .i64 first, .slice A n cap], .int .i64 rate, .int .i64 kind, .int .i64 age, .int .i64 yrs, .bool b] w fun e w' => e = .returned (.int .i64 (code6 first xs rate age (b && fitsB kind yrs) yrs)) ∧ Below w.heap.size w w' := by
  have hbw : Below w.heap.size w (w.alloc (.cells #[.int .i64 first, .slice A n cap] 26)) := (Below.refl _ w).alloc (Nat.le_refl _) _
  have HT := Lib.hid (hT.past hbw); clear hT
  cases h1 : inR kind 0 3
  · have e : fitsB kind yrs = false := by simp [fitsB, h1]
    rw [e]
    cases b
    all_goals
      go_enter Tryz.func93, Tryz.ntmps93
      go_wp2_with (first | (go_at_call 72; refine (spec_l01In_any _ _ _ _).mono ?_; rintro e w' ⟨rfl, rfl⟩))
      refine (spec_l06Code_any first A n cap xs rate age _ yrs _ HT.out hcap hf).mono ?_
      rintro e w1 ⟨rfl, hb1⟩
      go_wp2
      go_ret
      exact ⟨by simp, hbw.trans (hb1.mono (by simp))⟩
  · have e : fitsB kind yrs = ((kind == 0) == (yrs == 0)) := by simp [fitsB, h1]
    rw [e]
    cases b
    · go_enter Tryz.func93, Tryz.ntmps93
      go_wp2_with (first | (go_at_call 72; refine (spec_l01In_any _ _ _ _).mono ?_; rintro e w' ⟨rfl, rfl⟩))
      all_goals (refine (spec_l06Code_any first A n cap xs rate age _ yrs _ HT.out hcap hf).mono ?_; rintro e w1 ⟨rfl, hb1⟩; go_wp2; go_ret; exact ⟨by simp, hbw.trans (hb1.mono (by simp))⟩)
    · obtain ⟨q, hq⟩ : ∃ q, ((kind == 0) == (yrs == 0)) = q := ⟨_, rfl⟩
      rw [hq]
      go_enter Tryz.func93, Tryz.ntmps93
      go_wp2_with (first | (go_at_call 72; refine (spec_l01In_any _ _ _ _).mono ?_; rintro e w' ⟨rfl, rfl⟩))
      refine (spec_l06Code_any first A n cap xs rate age _ yrs _ HT.out hcap hf).mono ?_
      rintro e w1 ⟨rfl, hb1⟩
      go_wp2
      go_ret
      exact ⟨by simp, hbw.trans (hb1.mono (by simp))⟩

/-- a basis lies in memory -/
structure BasT (w : World) (A : Option Addr) (n cap : Nat) (b : Bas) : Prop where
  lives : LiesT w A n b.lives
  cap : n ≤ cap
  first : In64 b.first
  rate : In64 b.rate
theorem BasT.past {w w' : World} {A : Option Addr} {n cap : Nat} {b : Bas} (h : BasT w A n cap b) (hb : Below w.heap.size w w') : BasT w' A n cap b := ⟨h.lives.past hb, h.cap, h.first, h.rate⟩
theorem BasT.at_past {w : World} {A : Option Addr} {n cap : Nat} {b : Bas} (h : BasT w A n cap b) (x : Past w) : BasT x.1 A n cap b := h.past x.2
abbrev Bas.row (b : Bas) (A : Option Addr) (n cap : Nat) : List Value := [.int .i64 b.first, .slice A n cap, .int .i64 b.rate]

theorem spec_IsBasis_any (b : Bas) (A : Option Addr) (n cap : Nat) (w : World) (hB : BasT w A n cap b) :
    Calls Tryz.prog 87 #[.agg #[.int .i64 b.first, .slice A n cap, .int .i64 b.rate]] w fun e w' => e = .returned (.bool (basisB b)) ∧ Below w.heap.size w w' := by
  have hbw : Below w.heap.size w (w.alloc (.cells #[.int .i64 b.first, .slice A n cap, .int .i64 b.rate] 40)) := (Below.refl _ w).alloc (Nat.le_refl _) _
  have HB := Lib.hid (Blk.new w 40 #[.int .i64 b.first, .slice A n cap, .int .i64 b.rate])
  have HBT := Lib.hid (hB.past hbw); clear hB
  cases h1 : tableB b.first b.lives
  · have Q := Lib.hid (show basisB b = false by simp [basisB, h1])
    go_enter Tryz.func87, Tryz.ntmps87
    go_wp2_with fail
    refine (spec_IsLifeTable_any b.first A n cap b.lives _ HBT.out.lives HBT.out.cap HBT.out.first).mono ?_
    rw [h1]
    rintro e w1 ⟨rfl, hb1⟩
    go_wp2
    go_ret
    exact ⟨by rw [Q.out]; rfl, hbw.trans (hb1.mono (by simp))⟩
  · have Q := Lib.hid (show basisB b = inR b.rate 0 200 by simp [basisB, h1])
    go_enter Tryz.func87, Tryz.ntmps87
    go_wp2_with fail
    refine (spec_IsLifeTable_any b.first A n cap b.lives _ HBT.out.lives HBT.out.cap HBT.out.first).mono ?_
    rw [h1]
    rintro e w1 ⟨rfl, hb1⟩
    have c2 : w1.cell? ⟨w.heap.size, 2, none⟩ = some (.int .i64 b.rate) := (HB.out.below' hb1).cell 2
    go_wp2_with (first | (go_at_call 117; refine (spec_l04Rate_any _ _).mono ?_; rintro e w' ⟨rfl, rfl⟩))
    go_ret
    exact ⟨by rw [Q.out]; rfl, hbw.trans (hb1.mono (by simp))⟩

def polCode (b : Bas) (p : Policy) : Int := code6 b.first b.lives b.rate p.age (inR p.sum 1 100000000 && fitsB p.kind p.years) p.years
theorem polCode_of {b : Bas} {p : Policy} (h : polB b p = true) : polCode b p = 0 := by
  have P := pol_ok h
  have h1 : basisB b = true := by simp only [polB, Bool.and_eq_true] at h; exact h.1
  simp only [basisB, Bool.and_eq_true] at h1
  have h2 : code5 b.first b.lives b.rate p.age = 0 := by unfold code5; rw [if_pos h1.1, if_pos ⟨h1.2, inR_mk ⟨P.age0, P.age1⟩⟩]
  have h3 : fitsB p.kind p.years = true := fitsB_true.2 ⟨⟨P.kind0, P.kind1⟩, P.zero.symm⟩
  have h4 : ¬ dC b.lives b.rate (p.age - b.first).toNat = 0 := by have := d_age P; unfold Bas.d Bas.ix at this; omega
  unfold polCode code6
  rw [if_pos h2, if_pos ⟨by rw [h3, inR_mk ⟨P.sum0, P.sum1⟩]; rfl, inR_mk ⟨P.yrs0, P.yrs1⟩, P.end1⟩, if_neg h4]
theorem pol_of {b : Bas} {p : Policy} (h1 : basisB b = true) (h2 : inR p.load 0 1000 = true) (h3 : polCode b p = 0) (h4 : ∀ i : Nat, (i : Int) < p.years → b.d (p.age + i) ≠ 0) : polB b p = true := by
  unfold polCode at h3
  have h5 : code5 b.first b.lives b.rate p.age = 0 := by
    unfold code6 at h3
    by_cases e : code5 b.first b.lives b.rate p.age = 0
    · exact e
    · rw [if_neg e] at h3; exact absurd h3 e
  obtain ⟨_, ⟨r1, r2⟩, a1, a2⟩ := code5_ok h5
  unfold code6 at h3
  rw [if_pos h5] at h3
  by_cases e : ((inR p.sum 1 100000000 && fitsB p.kind p.years) = true ∧ inR p.years 0 120 = true ∧ p.age + p.years ≤ 150)
  · rw [if_pos e] at h3
    by_cases e2 : dC b.lives b.rate (p.age - b.first).toNat = 0
    · rw [if_pos e2] at h3; omega
    · obtain ⟨e3, e4, e5⟩ := e
      simp only [Bool.and_eq_true] at e3
      obtain ⟨k1, k2⟩ := fitsB_true.1 e3.2
      have e6 : assurB b p.kind p.age p.years p.sum = true := by
        simp only [assurB, Bool.and_eq_true, decide_eq_true_eq, beq_iff_eq, decide_eq_decide]
        exact ⟨inR_mk k1, inR_mk ⟨r1, r2⟩, inR_mk ⟨a1, a2⟩, e3.1, e4, e5, k2.symm⟩
      have e7 : bandB b p.age p.years = true := by
        simp only [bandB, List.all_eq_true, List.mem_range, decide_eq_true_eq]
        intro i hi
        by_cases hi0 : i = 0
        · subst hi0
          simp only [Int.natCast_zero, Int.add_zero]
          exact e2
        · exact h4 i (by omega)
      simp only [polB, h1, h2, e6, e7, Bool.and_self]
  · rw [if_neg e] at h3; omega
theorem polCode_ok {b : Bas} {p : Policy} (h3 : polCode b p = 0) : BasOk b ∧ b.first ≤ p.age ∧ p.age ≤ 150 ∧ 0 ≤ p.years ∧ p.years ≤ 120 := by
  unfold polCode at h3
  have h5 : code5 b.first b.lives b.rate p.age = 0 := by
    unfold code6 at h3
    by_cases e : code5 b.first b.lives b.rate p.age = 0
    · exact e
    · rw [if_neg e] at h3; exact absurd h3 e
  obtain ⟨T, ⟨r1, r2⟩, a1, a2⟩ := code5_ok h5
  unfold code6 at h3
  rw [if_pos h5] at h3
  by_cases e : ((inR p.sum 1 100000000 && fitsB p.kind p.years) = true ∧ inR p.years 0 120 = true ∧ p.age + p.years ≤ 150)
  · have := inR_true.1 e.2.1
    exact ⟨⟨T, r1, r2⟩, a1, a2, this.1, this.2⟩
  · rw [if_neg e] at h3; omega

theorem boxes_below {w : World} {X Y : List Value} {tx ty : TypeId} : Below w.heap.size w ((w.alloc (.cells X.toArray tx)).alloc (.cells Y.toArray ty)) := ((Below.refl _ w).alloc (Nat.le_refl _) _).alloc (by simp) _

set_option maxHeartbeats 4000000 in
theorem spec_IsPolicy_any (b : Bas) (A : Option Addr) (n cap : Nat) (p : Policy) (w : World) (hB : BasT w A n cap b) (_hp : p.fits) :
    Calls Tryz.prog 56 #[.agg #[.int .i64 b.first, .slice A n cap, .int .i64 b.rate], .agg p.row.toArray] w fun e w' => e = .returned (.bool (polB b p)) ∧ Below w.heap.size w w' := by
  have hbw := boxes_below (w := w) (X := b.row A n cap) (Y := p.row) (tx := 40) (ty := 42)
  have HB := Lib.hid ((Blk.new w 40 (b.row A n cap).toArray).alloc (.cells p.row.toArray 42))
  have HP := Lib.hid (Blk.new (w.alloc (.cells (b.row A n cap).toArray 40)) 42 p.row.toArray)
  rw [World.size_alloc] at HP
  unfold Bas.row Policy.row at *
  have HBT := Lib.hid (hB.past hbw); clear hB
  cases h1 : basisB b
  · have Q := Lib.hid (show polB b p = false by simp [polB, h1])
    go_enter Tryz.func56, Tryz.ntmps56
    go_wp2_with fail
    refine (spec_IsBasis_any b A n cap _ HBT.out).mono ?_
    rw [h1]
    rintro e w1 ⟨rfl, hb1⟩
    go_wp2
    go_ret
    exact ⟨by rw [Q.out]; rfl, hbw.trans (hb1.mono hbw.size)⟩
  cases h2 : inR p.load 0 1000
  · have Q := Lib.hid (show polB b p = false by simp [polB, h1, h2])
    go_enter Tryz.func56, Tryz.ntmps56
    go_wp2_with fail
    refine (spec_IsBasis_any b A n cap _ HBT.out).mono ?_
    rw [h1]
    rintro e w1 ⟨rfl, hb1⟩
    have c4 : w1.cell? ⟨w.heap.size + 1, 4, none⟩ = some (.int .i64 p.load) := (HP.out.below' hb1).cell 4
    go_wp2_with (first | (go_at_call 72; refine (spec_l01In_any _ _ _ _).mono ?_; rintro e w' ⟨rfl, rfl⟩))
    go_ret
    exact ⟨by rw [Q.out]; rfl, hbw.trans (hb1.mono hbw.size)⟩
  have H2 := Lib.hid h2
  go_enter Tryz.func56, Tryz.ntmps56
  go_wp2_with fail
  refine (spec_IsBasis_any b A n cap _ HBT.out).mono ?_
  rw [h1]
  rintro e w1 ⟨rfl, hb1⟩
  have HB1 := Lib.hid (HB.out.below' hb1)
  have HP1 := Lib.hid (HP.out.below' hb1)
  have c4 : w1.cell? ⟨w.heap.size + 1, 4, none⟩ = some (.int .i64 p.load) := HP1.out.cell 4
  have HBT1 := Lib.hid (HBT.out.past hb1)
  have hbw1 := hbw.trans (hb1.mono hbw.size)
  have hc1 := Lib.hid (Blk.agg_past (cs := [.int .i64 b.first, .slice A n cap, .int .i64 b.rate]) HB1.out 0 [.int .i64 b.first, .slice A n cap] rfl)
  have d2 := fun y : Past w1 => Past.cell (p := ⟨w.heap.size, 2, none⟩) (v := .int .i64 b.rate) (HB1.out.cell 2) y
  have e0 := fun y : Past w1 => Past.cell (p := ⟨w.heap.size + 1, 0, none⟩) (v := .int .i64 p.kind) (HP1.out.cell 0) y
  have e1 := fun y : Past w1 => Past.cell (p := ⟨w.heap.size + 1, 1, none⟩) (v := .int .i64 p.age) (HP1.out.cell 1) y
  have e2 := fun y : Past w1 => Past.cell (p := ⟨w.heap.size + 1, 2, none⟩) (v := .int .i64 p.years) (HP1.out.cell 2) y
  have e3 := fun y : Past w1 => Past.cell (p := ⟨w.heap.size + 1, 3, none⟩) (v := .int .i64 p.sum) (HP1.out.cell 3) y
  have QC := Lib.hid (show code6 b.first b.lives b.rate p.age (inR p.sum 1 100000000 && fitsB p.kind p.years) p.years = polCode b p from rfl)
  by_cases h3 : polCode b p = 0
  rotate_left
  · have Q := Lib.hid (show polB b p = false by cases e : polB b p; rfl; exact absurd (polCode_of e) h3)
    have h3b : (polCode b p == 0) = false := by simp [h3]
    have h3c : (polCode b p != 0) = true := by simp [h3]
    go_wp2_with (first | (go_at_call 72; refine (spec_l01In_any _ _ _ _).mono ?_; rintro e w' ⟨rfl, rfl⟩))
    refine wp_region_past (by kernel_rfl) (by kernel_rfl) ?_
    repeat (first | (go_big_quiet_want; (first | (refine quiet_load_agg 26 _ rfl ⟨w.heap.size, 0, none⟩ rfl [.int .i64 b.first, .slice A n cap] hc1.out _ Tryz.underlying26 rfl Tab.size ?_)); go_simp; go_big_quiet_on) | go_big_quiet_step ((first | (go_at_call 57; exact past_same (spec_l07Sum_any p.sum _)) | (go_at_call 93; exact past_call ((spec_l07Code_any b.first A n cap b.lives b.rate p.kind p.age p.years _ _ (HBT1.out.lives.at_past _) HBT1.out.cap HBT1.out.first).mono (by rw [QC.out]; exact fun _ _ h => h))))))
    refine wpQuiet_nil ?_
    rintro _ ⟨y, rfl⟩
    go_wp2
    go_ret
    exact ⟨by rw [Q.out]; rfl, hbw1.trans (y.2.mono hbw1.size)⟩
  obtain ⟨OK, a1, a2, y1, y2⟩ := polCode_ok h3
  have HOK := Lib.hid OK; clear OK
  have h3' := Lib.hid h3
  have T0 := HOK.out.tab.first0
  go_wp2_with (first | (go_at_call 72; refine (spec_l01In_any _ _ _ _).mono ?_; rintro e w' ⟨rfl, rfl⟩))
  refine wp_region_past (by kernel_rfl) (by kernel_rfl) ?_
  repeat (first | (go_big_quiet_want; (first | (refine quiet_load_agg 26 _ rfl ⟨w.heap.size, 0, none⟩ rfl [.int .i64 b.first, .slice A n cap] hc1.out _ Tryz.underlying26 rfl Tab.size ?_)); go_simp; go_big_quiet_on) | go_big_quiet_step ((first | (go_at_call 57; exact past_same (spec_l07Sum_any p.sum _)) | (go_at_call 93; exact past_call ((spec_l07Code_any b.first A n cap b.lives b.rate p.kind p.age p.years _ _ (HBT1.out.lives.at_past _) HBT1.out.cap HBT1.out.first).mono (by rw [QC.out, h3'.out]; exact fun _ _ h => h))))))
  refine wpQuiet_nil ?_
  rintro _ ⟨y, rfl⟩
  have HB2 := Lib.hid (HB1.out.below' y.2)
  have HP2 := Lib.hid (HP1.out.below' y.2)
  have hbw2 := hbw1.trans (y.2.mono hbw1.size)
  have HBT2 := Lib.hid (HBT1.out.past y.2)
  obtain ⟨wy, hwy⟩ : ∃ wy, wy = y.1 := ⟨y.1, rfl⟩
  rw [← hwy] at HB2 HP2 hbw2 HBT2 ⊢
  clear hwy e0 e1 e2 e3 d2 hc1 c4
  go_wp2
  go_loopw [5] (fun i wr => ∃ k : Nat, (k : Int) ≤ p.years ∧ i = .int .i64 k ∧ Hid (∀ j : Nat, j < k → b.d (p.age + j) ≠ 0) ∧ Below wy.heap.size wy wr) (fun i _ => 121 - (intOf i).toNat)
  case atStart => exact ⟨0, by omega, rfl, Lib.hid (fun j h => by omega), Below.refl _ _⟩
  case round =>
    obtain ⟨k, hk, rfl, hall, hb⟩ := hrel
    have HB3 := Lib.hid (HB2.out.below' hb)
    have HP3 := Lib.hid (HP2.out.below' hb)
    have f1 : wr.cell? ⟨w.heap.size + 1, 1, none⟩ = some (.int .i64 p.age) := HP3.out.cell 1
    have f2 : wr.cell? ⟨w.heap.size + 1, 2, none⟩ = some (.int .i64 p.years) := HP3.out.cell 2
    have f3 : wr.cell? ⟨w.heap.size, 2, none⟩ = some (.int .i64 b.rate) := HB3.out.cell 2
    have hc3 := Lib.hid (Blk.agg (cs := [.int .i64 b.first, .slice A n cap, .int .i64 b.rate]) HB3.out 0 [.int .i64 b.first, .slice A n cap] rfl)
    by_cases hlt : (k : Int) < p.years
    · have HBT3 := Lib.hid (HBT2.out.past hb)
      go_wp2_with (refine wpList_load_agg rfl 26 _ rfl ⟨w.heap.size, 0, none⟩ rfl [.int .i64 b.first, .slice A n cap] hc3.out _ Tryz.underlying26 rfl Tab.size ?_)
      refine (spec_l05D_any b.first A n cap b.lives b.rate (p.age + (k : Int)) _ HBT3.out.lives HOK.out.tab ⟨HOK.out.rate0, HOK.out.rate1⟩ ⟨by omega, by omega⟩).mono ?_
      rw [show dC b.lives b.rate (p.age + (k : Int) - b.first).toNat = b.d (p.age + (k : Int)) from rfl]
      by_cases hd : b.d (p.age + (k : Int)) = 0
      · have Q := Lib.hid (show polB b p = false by
          cases e : polB b p
          · rfl
          · exact absurd hd ((pol_ok e).band k (by omega)))
        have HD := Lib.hid hd; clear hd
        rw [HD.out]
        rintro e w3 ⟨rfl, hb3⟩
        go_wp2
        go_ret
        exact ⟨by rw [Q.out]; rfl, hbw2.trans ((below_step hb hb3).mono hbw2.size)⟩
      · rintro e w3 ⟨rfl, hb3⟩
        go_wp2
        go_roundw
        case rel => exact ⟨k + 1, by omega, by go_num, Lib.hid (fun j h => by
          by_cases e : j = k
          · subst e; exact hd
          · exact hall.out j (by omega)), below_step hb hb3⟩
        case measure => simp [intOf]; omega
    · have Q := Lib.hid (show polB b p = true from pol_of h1 H2.out h3'.out fun i hi => hall.out i (by omega))
      go_wp2
      go_ret
      exact ⟨by rw [Q.out]; rfl, hbw2.trans (hb.mono hbw2.size)⟩
end Go.Proofs.YtkdfdbcpbgganaaGreatDoor
end

/- The difference of two products divided by a number, bit by bit: the reference's contract. -/
section
namespace Go.Proofs.YtkdfdbcpbgganaaGreatDoor
open Go.RowKit Go.BigFrame

theorem minus_parts {a b s c d A S : Int} (hA : 0 ≤ A ∧ A ≤ a) (hS : 0 ≤ S ∧ S ≤ s) (hb : 0 ≤ b) (hc : 0 ≤ c) (hd : 1 ≤ d) (h1 : a * b / d ≤ 100000000000000000) (h2 : s * c / d ≤ 100000000000000000) :
    -100000000000000001 ≤ (A * b - S * c) / d ∧ (A * b - S * c) / d ≤ 100000000000000000 := by
  have e1 : A * b ≤ a * b := Int.mul_le_mul_of_nonneg_right hA.2 hb
  have e2 : S * c ≤ s * c := Int.mul_le_mul_of_nonneg_right hS.2 hc
  have e3 : 0 ≤ A * b := Int.mul_nonneg hA.1 hb
  have e4 : 0 ≤ S * c := Int.mul_nonneg hS.1 hc
  have f1 : (A * b - S * c) / d ≤ a * b / d := Int.ediv_le_ediv (by omega) (by omega)
  have f2 : -(s * c) / d ≤ (A * b - S * c) / d := Int.ediv_le_ediv (by omega) (by omega)
  have f3 : -(s * c / d) - 1 ≤ -(s * c) / d := by
    apply Int.le_ediv_of_mul_le (by omega)
    have g1 := Int.mul_ediv_add_emod (s * c) d
    have g2 := Int.emod_lt_of_pos (s * c) (by omega : 0 < d)
    have g3 := Int.emod_nonneg (s * c) (by omega : d ≠ 0)
    rw [Int.sub_mul, Int.neg_mul, Int.mul_comm (s * c / d)]
    omega
  omega
theorem quo_of {x d q r : Int} (h : q * d + r = x) (h0 : 0 ≤ r) (h1 : r < d) : x / d = q ∧ x % d = r := by
  subst h
  rw [Int.add_comm, Int.add_mul_ediv_right _ _ (by omega), Int.ediv_eq_zero_of_lt h0 h1, Int.add_mul_emod_self_right, Int.emod_eq_of_lt h0 h1]
  omega
theorem q_near {x d q r : Int} (hd : 1 ≤ d) (h : q * d + r = x) (h0 : -d < r) (h1 : r < 3 * d) : x / d - 2 ≤ q ∧ q ≤ x / d + 1 := by
  have e : x / d = q + r / d := by subst h; rw [Int.add_comm, Int.add_mul_ediv_right _ _ (by omega)]; omega
  have e1 : -1 ≤ r / d := Int.le_ediv_of_mul_le (by omega) (by omega)
  have e2 : r / d < 3 := Int.ediv_lt_of_lt_mul (by omega) h1
  omega
theorem pow_half {a : Int} {k : Nat} (_ha : 0 ≤ a) : a / 2 ^ k / 2 = a / 2 ^ (k + 1) := by
  rw [Int.pow_succ, ← Int.ediv_ediv_of_nonneg (Int.pow_nonneg (by omega))]

end Go.Proofs.YtkdfdbcpbgganaaGreatDoor
end

/- Premiums, reserves and their codes: the reference's contracts. -/
section
namespace Go.Proofs.YtkdfdbcpbgganaaGreatDoor
open Go.RowKit Go.BigFrame
theorem polRow_size : (Policy.row ⟨0, 0, 0, 0, 0⟩).length = 5 := rfl


set_option maxHeartbeats 2000000 in
theorem spec_l10Net_any (b : Bas) (A : Option Addr) (n cap : Nat) (p : Policy) (w : World) (hB : BasT w A n cap b) (P : PolOk b p) :
    Calls Tryz.prog 94 #[.agg #[.int .i64 b.first, .slice A n cap, .int .i64 b.rate], .agg p.row.toArray] w fun e w' => e = .returned (.int .i64 (netP b p)) ∧ Below w.heap.size w w' := by
  have hbw := boxes_below (w := w) (X := b.row A n cap) (Y := p.row) (tx := 40) (ty := 42)
  have HB := Lib.hid ((Blk.new w 40 (b.row A n cap).toArray).alloc (.cells p.row.toArray 42))
  have HP := Lib.hid (Blk.new (w.alloc (.cells (b.row A n cap).toArray 40)) 42 p.row.toArray)
  rw [World.size_alloc] at HP
  unfold Bas.row Policy.row at *
  have HBT := Lib.hid (hB.past hbw); clear hB
  have Q := Lib.hid (show netP b p = upP p.sum (topF b.lives b.rate p.kind (p.age - b.first).toNat p.years.toNat) (baseF b.lives b.rate p.kind (p.age - b.first).toNat p.years.toNat) from rfl)
  have hd := d_age P
  unfold Bas.d Bas.ix at hd
  have a1 := P.age0; have a2 := P.age1; have y1 := P.yrs0; have y2 := P.yrs1; have s1 := P.sum0; have s2 := P.sum1
  have HPO := Lib.hid P; clear P
  go_enter Tryz.func94, Tryz.ntmps94
  go_wp2_with fail
  refine (spec_l07Level_any b.first A n cap b.lives b.rate p.kind p.age p.years p.sum _ HBT.out.lives HPO.out.tab ⟨HPO.out.rate0, HPO.out.rate1⟩ ⟨by omega, by omega⟩ ⟨by omega, by omega⟩ ⟨by omega, by omega⟩ (kind_or HPO.out) hd).mono ?_
  rintro e w1 ⟨rfl, hb1⟩
  go_wp2
  go_ret
  exact ⟨by rw [Q.out]; rfl, hbw.trans (hb1.mono hbw.size)⟩


set_option maxHeartbeats 2000000 in
theorem spec_l10Office_any (b : Bas) (A : Option Addr) (n cap : Nat) (p : Policy) (w : World) (hB : BasT w A n cap b) (P : PolOk b p) :
    Calls Tryz.prog 58 #[.agg #[.int .i64 b.first, .slice A n cap, .int .i64 b.rate], .agg p.row.toArray] w fun e w' => e = .returned (.int .i64 (officeP b p)) ∧ Below w.heap.size w w' := by
  have hbw := boxes_below (w := w) (X := b.row A n cap) (Y := p.row) (tx := 40) (ty := 42)
  have HB := Lib.hid ((Blk.new w 40 (b.row A n cap).toArray).alloc (.cells p.row.toArray 42))
  have HP := Lib.hid (Blk.new (w.alloc (.cells (b.row A n cap).toArray 40)) 42 p.row.toArray)
  rw [World.size_alloc] at HP
  unfold Bas.row Policy.row at *
  have HBT := Lib.hid (hB.past hbw); clear hB
  have Q := Lib.hid (show officeP b p = netP b p + ceilDiv (netP b p * p.load) 1000 from rfl)
  obtain ⟨o1, o2, o3, o4⟩ := office_bound P
  obtain ⟨n1, n2⟩ := net_bound P
  have hcd := ceil_bound o1
  obtain ⟨e1, e2⟩ := hcd
  have HPO := Lib.hid P; clear P
  go_enter Tryz.func58, Tryz.ntmps58
  go_wp2_with fail
  refine (spec_l10Net_any b A n cap p _ HBT.out HPO.out).mono ?_
  rintro e w1 ⟨rfl, hb1⟩
  have HB1 := Lib.hid (HB.out.below' hb1)
  have HP1 := Lib.hid (HP.out.below' hb1)
  have cp4 : w1.cell? ⟨w.heap.size + 1, 4, none⟩ = some (.int .i64 p.load) := HP1.out.cell 4
  go_wp2_with (first | (go_at_call 95; refine (spec_l01Up_any _ _ _ (by omega) (by omega) (by omega) (by omega)).mono ?_; rintro e w' ⟨rfl, rfl⟩))
  go_ret
  exact ⟨by rw [Q.out]; rfl, hbw.trans (hb1.mono hbw.size)⟩


theorem year_facts {b : Bas} {p : Policy} {k : Int} (Y : YearOk b p k) : (0 ≤ leftP p k ∧ leftP p k ≤ 120) ∧ b.first ≤ p.age + k ∧ p.age + k ≤ 300 ∧ k ≤ 150 := by
  have h1 := left_bound Y.toPolOk Y.k0
  have h2 := dur_bound Y.toPolOk
  have := Y.k1; have := Y.k0; have := Y.age0; have := Y.age1; have := Y.yrs0
  refine ⟨⟨?_, h1⟩, by omega, by omega, by omega⟩
  have h3 := Y.k1
  unfold leftP
  unfold durP at h3
  split
  · omega
  · rename_i h; rw [if_neg h] at h3; omega


end Go.Proofs.YtkdfdbcpbgganaaGreatDoor
end
