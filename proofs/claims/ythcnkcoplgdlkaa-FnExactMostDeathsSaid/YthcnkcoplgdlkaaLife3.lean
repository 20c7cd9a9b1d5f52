/- Sums of columns, values and premiums of assurances, codes: the reference's contracts. -/
import Derived.Test.YthcnkcoplgdlkaaLife2
import Derived.Test.YthcnkcoplgdlkaaLifeS
import Derived.Test.YthcnkcoplgdlkaaPolP
import Derived.Test.YthcnkcoplgdlkaaDiv2
namespace Go.Proofs.Ythcnkcoplgdlkaa
open Go.RowKit Go.BigFrame

theorem Bas.size : (Try.prog.info? 32).map (·.size) = some 3 := by kernel_rfl


set_option maxHeartbeats 2000000 in
theorem spec_l05N_any (first : Int) (A : Option Addr) (n cap : Nat) (xs : List Int) (rate age : Int) (w : World) (hT : LiesT w A n xs) (T : TabOk first xs) (hr : 0 ≤ rate ∧ rate ≤ 200) (ha : first ≤ age ∧ age ≤ 500) :
    Calls Try.prog 192 #[.agg #[.int .i64 first, .slice A n cap], .int .i64 rate, .int .i64 age] w fun e w' => e = .returned (.int .i64 (nC xs rate (age - first).toNat)) ∧ Below w.heap.size w w' := by
  have hbw : Below w.heap.size w (w.alloc (.cells #[.int .i64 first, .slice A n cap] 30)) := (Below.refl _ w).alloc (Nat.le_refl _) _
  have HB := Lib.hid (Blk.new w 30 #[.int .i64 first, .slice A n cap])
  have HT := Lib.hid (hT.past hbw); clear hT
  have hn := HT.out.small
  have HL := Lib.hid HT.out.len
  obtain ⟨a1, a2⟩ := ha
  obtain ⟨r1, r2⟩ := hr
  obtain ⟨k, hk⟩ := Int.eq_ofNat_of_zero_le (show 0 ≤ age - first by omega)
  have HK := Lib.hid hk; clear hk
  have HE := Lib.hid (show (age - first).toNat = k by have := HK.out; omega)
  rw [HE.out]
  have T1 := T.first0; have T2 := T.first1; have T3 := T.len1; have T4 := T.len0
  rw [HL.out] at T3 T4
  have HTab := Lib.hid T; clear T
  have HSum := Lib.hid (fun j : Nat => dSum_bound HTab.out r1 k j)
  have HDk := Lib.hid (dC_bound HTab.out r1 k)
  go_enter Try.func192, Try.ntmps192
  go_wp2
  go_loopw [7, 8] (fun s x wr => ∃ j : Nat, x = .int .i64 (age + (j : Int)) ∧ s = .int .i64 (sumF (dC xs rate) k j) ∧ (j = 0 ∨ k + j + 1 ≤ n) ∧ Below (w.heap.size + 1) (w.alloc (.cells #[.int .i64 first, .slice A n cap] 30)) wr) (fun _ x _ => (first + (n : Int) - 1 - intOf x).toNat)
  case atStart => exact ⟨0, by go_num, rfl, .inl rfl, Below.refl _ _⟩
  case round =>
    obtain ⟨j, rfl, rfl, hj, hb⟩ := hrel
    have hsz : w.heap.size + 1 ≤ wr.heap.size := by have := hb.size; simpa using this
    have HB1 := Lib.hid (HB.out.below hb (by omega))
    have HT1 := Lib.hid (HT.out.past (hb.mono (by simp)))
    have hc1 := Lib.hid (Blk.agg (cs := [.int .i64 first, .slice A n cap]) HB1.out 0 [.int .i64 first, .slice A n cap] rfl)
    have hj120 : (j : Int) ≤ 120 := by omega
    go_wp2_with (refine wpList_load_agg rfl 30 _ rfl ⟨w.heap.size, 0, none⟩ rfl [.int .i64 first, .slice A n cap] hc1.out _ Try.underlying30 rfl Tab.size ?_)
    refine (spec_l03End_any first A n cap _ hn ⟨T1, T2⟩).mono ?_
    rintro e w1 ⟨rfl, hb1⟩
    have hb2 : Below (w.heap.size + 1) (w.alloc (.cells #[.int .i64 first, .slice A n cap] 30)) w1 := hb.trans (hb1.mono hsz)
    have hsz1 : w.heap.size + 1 ≤ w1.heap.size := by have := hb2.size; simpa using this
    by_cases hlt : age + (j : Int) < first + (n : Int) - 1
    · have HB2 := Lib.hid (HB1.out.below' hb1)
      have HT2 := Lib.hid (HT1.out.past hb1)
      have hc2 := Lib.hid (Blk.agg (cs := [.int .i64 first, .slice A n cap]) HB2.out 0 [.int .i64 first, .slice A n cap] rfl)
      have hs0 := HSum.out j
      have hs1 := HSum.out (j + 1)
      have HS1 := Lib.hid (sumF_snoc (dC xs rate) k j)
      have hd0 := HDk.out
      have hm1 : (j : Int) * dC xs rate k ≤ 120 * 1000000000000000 := Int.mul_le_mul hj120 hd0.2 hd0.1 (by omega)
      rw [HS1.out] at hs1
      obtain ⟨b1, b2⟩ := dC_bound HTab.out r1 (k + j)
      obtain ⟨s1, s2⟩ := hs0
      obtain ⟨s3, s4⟩ := hs1
      go_wp2_with (refine wpList_load_agg rfl 30 _ rfl ⟨w.heap.size, 0, none⟩ rfl [.int .i64 first, .slice A n cap] hc2.out _ Try.underlying30 rfl Tab.size ?_)
      refine (spec_l05D_any first A n cap xs rate (age + (j : Int)) _ HT2.out HTab.out ⟨r1, r2⟩ ⟨by omega, by omega⟩).mono ?_
      rw [show (age + (j : Int) - first).toNat = k + j by have := HK.out; omega]
      rintro e w2 ⟨rfl, hb3⟩
      go_wp2
      go_roundw
      case rel => exact ⟨j + 1, by go_num, by rw [HS1.out], .inr (by have := HK.out; omega), hb2.trans (hb3.mono hsz1)⟩
      case measure => simp [intOf]; omega
    · have Q := Lib.hid (show sumF (dC xs rate) k j = nC xs rate k from nC_any HTab.out k j (by have := HK.out; have := HL.out; omega))
      go_wp2
      go_ret
      exact ⟨by rw [Q.out]; rfl, hbw.trans (hb2.mono (by omega))⟩


set_option maxHeartbeats 2000000 in
theorem spec_l05M_any (first : Int) (A : Option Addr) (n cap : Nat) (xs : List Int) (rate age : Int) (w : World) (hT : LiesT w A n xs) (T : TabOk first xs) (hr : 0 ≤ rate ∧ rate ≤ 200) (ha : first ≤ age ∧ age ≤ 500) :
    Calls Try.prog 185 #[.agg #[.int .i64 first, .slice A n cap], .int .i64 rate, .int .i64 age] w fun e w' => e = .returned (.int .i64 (mC xs rate (age - first).toNat)) ∧ Below w.heap.size w w' := by
  have hbw : Below w.heap.size w (w.alloc (.cells #[.int .i64 first, .slice A n cap] 30)) := (Below.refl _ w).alloc (Nat.le_refl _) _
  have HB := Lib.hid (Blk.new w 30 #[.int .i64 first, .slice A n cap])
  have HT := Lib.hid (hT.past hbw); clear hT
  have hn := HT.out.small
  have HL := Lib.hid HT.out.len
  obtain ⟨a1, a2⟩ := ha
  obtain ⟨r1, r2⟩ := hr
  obtain ⟨k, hk⟩ := Int.eq_ofNat_of_zero_le (show 0 ≤ age - first by omega)
  have HK := Lib.hid hk; clear hk
  have HE := Lib.hid (show (age - first).toNat = k by have := HK.out; omega)
  rw [HE.out]
  have T1 := T.first0; have T2 := T.first1; have T3 := T.len1; have T4 := T.len0
  rw [HL.out] at T3 T4
  have HTab := Lib.hid T; clear T
  have HSum := Lib.hid (fun j : Nat => cSum_bound HTab.out r1 k j)
  have HDk := Lib.hid (dC_bound HTab.out r1 k)
  go_enter Try.func185, Try.ntmps185
  go_wp2
  go_loopw [7, 8] (fun s x wr => ∃ j : Nat, x = .int .i64 (age + (j : Int)) ∧ s = .int .i64 (sumF (cC xs rate) k j) ∧ (j = 0 ∨ k + j + 1 ≤ n) ∧ Below (w.heap.size + 1) (w.alloc (.cells #[.int .i64 first, .slice A n cap] 30)) wr) (fun _ x _ => (first + (n : Int) - 1 - intOf x).toNat)
  case atStart => exact ⟨0, by go_num, rfl, .inl rfl, Below.refl _ _⟩
  case round =>
    obtain ⟨j, rfl, rfl, hj, hb⟩ := hrel
    have hsz : w.heap.size + 1 ≤ wr.heap.size := by have := hb.size; simpa using this
    have HB1 := Lib.hid (HB.out.below hb (by omega))
    have HT1 := Lib.hid (HT.out.past (hb.mono (by simp)))
    have hc1 := Lib.hid (Blk.agg (cs := [.int .i64 first, .slice A n cap]) HB1.out 0 [.int .i64 first, .slice A n cap] rfl)
    have hj120 : (j : Int) ≤ 120 := by omega
    go_wp2_with (refine wpList_load_agg rfl 30 _ rfl ⟨w.heap.size, 0, none⟩ rfl [.int .i64 first, .slice A n cap] hc1.out _ Try.underlying30 rfl Tab.size ?_)
    refine (spec_l03End_any first A n cap _ hn ⟨T1, T2⟩).mono ?_
    rintro e w1 ⟨rfl, hb1⟩
    have hb2 : Below (w.heap.size + 1) (w.alloc (.cells #[.int .i64 first, .slice A n cap] 30)) w1 := hb.trans (hb1.mono hsz)
    have hsz1 : w.heap.size + 1 ≤ w1.heap.size := by have := hb2.size; simpa using this
    by_cases hlt : age + (j : Int) < first + (n : Int) - 1
    · have HB2 := Lib.hid (HB1.out.below' hb1)
      have HT2 := Lib.hid (HT1.out.past hb1)
      have hc2 := Lib.hid (Blk.agg (cs := [.int .i64 first, .slice A n cap]) HB2.out 0 [.int .i64 first, .slice A n cap] rfl)
      have hs0 := HSum.out j
      have hs1 := HSum.out (j + 1)
      have HS1 := Lib.hid (sumF_snoc (cC xs rate) k j)
      have hd0 := HDk.out
      have hm1 : (j : Int) * dC xs rate k ≤ 120 * 1000000000000000 := Int.mul_le_mul hj120 hd0.2 hd0.1 (by omega)
      rw [HS1.out] at hs1
      obtain ⟨b1, b2⟩ := cC_bound HTab.out r1 (k + j)
      obtain ⟨b3, b4⟩ := dC_bound HTab.out r1 (k + j)
      obtain ⟨b5, b6⟩ := dC_bound HTab.out r1 (k + j + 1)
      obtain ⟨s1, s2⟩ := hs0
      obtain ⟨s3, s4⟩ := hs1
      go_wp2_with (refine wpList_load_agg rfl 30 _ rfl ⟨w.heap.size, 0, none⟩ rfl [.int .i64 first, .slice A n cap] hc2.out _ Try.underlying30 rfl Tab.size ?_)
      refine (spec_l05C_any first A n cap xs rate (age + (j : Int)) _ HT2.out HTab.out ⟨r1, r2⟩ ⟨by omega, by omega⟩).mono ?_
      rw [show (age + (j : Int) - first).toNat = k + j by have := HK.out; omega]
      rintro e w2 ⟨rfl, hb3⟩
      go_wp2
      go_roundw
      case rel => exact ⟨j + 1, by go_num, by rw [HS1.out], .inr (by have := HK.out; omega), hb2.trans (hb3.mono hsz1)⟩
      case measure => simp [intOf]; omega
    · have Q := Lib.hid (show sumF (cC xs rate) k j = mC xs rate k from mC_any HTab.out k j (by have := HK.out; have := HL.out; omega))
      go_wp2
      go_ret
      exact ⟨by rw [Q.out]; rfl, hbw.trans (hb2.mono (by omega))⟩


set_option maxHeartbeats 2000000 in
theorem spec_l07Top_any (first : Int) (A : Option Addr) (n cap : Nat) (xs : List Int) (rate kind age yrs : Int) (w : World) (hT : LiesT w A n xs) (T : TabOk first xs) (hr : 0 ≤ rate ∧ rate ≤ 200) (ha : first ≤ age ∧ age ≤ 300) (hy : 0 ≤ yrs ∧ age + yrs ≤ 420) :
    Calls Try.prog 132 #[.agg #[.int .i64 first, .slice A n cap], .int .i64 rate, .int .i64 kind, .int .i64 age, .int .i64 yrs] w fun e w' => e = .returned (.int .i64 (topF xs rate kind (age - first).toNat yrs.toNat)) ∧ Below w.heap.size w w' := by
  have hbw : Below w.heap.size w (w.alloc (.cells #[.int .i64 first, .slice A n cap] 30)) := (Below.refl _ w).alloc (Nat.le_refl _) _
  have HB := Lib.hid (Blk.new w 30 #[.int .i64 first, .slice A n cap])
  have HT := Lib.hid (hT.past hbw); clear hT
  have HL := Lib.hid HT.out.len
  obtain ⟨a1, a2⟩ := ha
  obtain ⟨r1, r2⟩ := hr
  obtain ⟨y1, y2⟩ := hy
  obtain ⟨k, hk⟩ := Int.eq_ofNat_of_zero_le (show 0 ≤ age - first by omega)
  obtain ⟨m, hm⟩ := Int.eq_ofNat_of_zero_le y1
  have T1 := T.first0; have T2 := T.first1
  have hE0 : (age - first).toNat = k := by omega
  have hE1 : (age + yrs - first).toNat = k + m := by omega
  have hEm : yrs.toNat = m := by omega
  rw [hE0, hEm]
  clear hk hm hEm
  have HTab := Lib.hid T; clear T
  have hcs := Lib.hid (Blk.agg_past (cs := [.int .i64 first, .slice A n cap]) HB.out 0 [.int .i64 first, .slice A n cap] rfl)
  obtain ⟨b1, b2⟩ := mC_bound HTab.out r1 k
  obtain ⟨b3, b4⟩ := dC_bound HTab.out r1 k
  obtain ⟨b5, b6⟩ := mC_bound HTab.out r1 (k + m)
  obtain ⟨b7, b8⟩ := dC_bound HTab.out r1 (k + m)
  by_cases h0 : kind = 0
  · subst h0
    have Q := Lib.hid (show topF xs rate 0 k m = mC xs rate k by simp [topF])
    go_enter Try.func132, Try.ntmps132
    go_wp2_with fail
    refine (spec_l05M_any first A n cap xs rate age _ HT.out HTab.out ⟨r1, r2⟩ ⟨by omega, by omega⟩).mono ?_
    rw [hE0]
    rintro e w1 ⟨rfl, hb1⟩
    go_wp2
    go_ret
    exact ⟨by rw [Q.out]; rfl, hbw.trans (hb1.mono (by simp))⟩
  by_cases h1 : kind = 1
  · subst h1
    have Q := Lib.hid (show topF xs rate 1 k m = mC xs rate k - mC xs rate (k + m) by simp [topF])
    go_enter Try.func132, Try.ntmps132
    go_wp2
    refine wp_region_past (by kernel_rfl) (by kernel_rfl) ?_
    repeat (first | (go_big_quiet_want; (first | (refine quiet_load_agg 30 _ rfl ⟨w.heap.size, 0, none⟩ rfl [.int .i64 first, .slice A n cap] hcs.out _ Try.underlying30 rfl Tab.size ?_)); go_simp; go_big_quiet_on) | go_big_quiet_step ((go_at_call 185; exact past_call (spec_l05M_any first A n cap xs rate _ _ (HT.out.at_past _) HTab.out ⟨by omega, by omega⟩ ⟨by omega, by omega⟩))))
    refine wpQuiet_nil ?_
    rintro _ ⟨y, rfl⟩
    go_wp2
    go_ret
    exact ⟨by rw [Q.out]; rfl, hbw.trans (y.2.mono (by simp))⟩
  by_cases h2 : kind = 2
  · subst h2
    have Q := Lib.hid (show topF xs rate 2 k m = mC xs rate k - mC xs rate (k + m) + dC xs rate (k + m) by simp [topF])
    go_enter Try.func132, Try.ntmps132
    go_wp2
    refine wp_region_past (by kernel_rfl) (by kernel_rfl) ?_
    repeat (first | (go_big_quiet_want; (first | (refine quiet_load_agg 30 _ rfl ⟨w.heap.size, 0, none⟩ rfl [.int .i64 first, .slice A n cap] hcs.out _ Try.underlying30 rfl Tab.size ?_)); go_simp; go_big_quiet_on) | go_big_quiet_step ((first | (go_at_call 185; exact past_call (spec_l05M_any first A n cap xs rate _ _ (HT.out.at_past _) HTab.out ⟨by omega, by omega⟩ ⟨by omega, by omega⟩)) | (go_at_call 108; exact past_call (spec_l05D_any first A n cap xs rate _ _ (HT.out.at_past _) HTab.out ⟨by omega, by omega⟩ ⟨by omega, by omega⟩)))))
    refine wpQuiet_nil ?_
    rintro _ ⟨y, rfl⟩
    go_wp2
    go_ret
    exact ⟨by rw [Q.out]; rfl, hbw.trans (y.2.mono (by simp))⟩
  have Q := Lib.hid (show topF xs rate kind k m = dC xs rate (k + m) by simp [topF, h0, h1, h2])
  go_enter Try.func132, Try.ntmps132
  go_wp2_with fail
  refine (spec_l05D_any first A n cap xs rate (age + yrs) _ HT.out HTab.out ⟨r1, r2⟩ ⟨by omega, by omega⟩).mono ?_
  rw [hE1]
  rintro e w1 ⟨rfl, hb1⟩
  go_wp2
  go_ret
  exact ⟨by rw [Q.out]; rfl, hbw.trans (hb1.mono (by simp))⟩

set_option maxHeartbeats 2000000 in
theorem spec_l07Base_any (first : Int) (A : Option Addr) (n cap : Nat) (xs : List Int) (rate kind age yrs : Int) (w : World) (hT : LiesT w A n xs) (T : TabOk first xs) (hr : 0 ≤ rate ∧ rate ≤ 200) (ha : first ≤ age ∧ age ≤ 300) (hy : 0 ≤ yrs ∧ age + yrs ≤ 420) :
    Calls Try.prog 165 #[.agg #[.int .i64 first, .slice A n cap], .int .i64 rate, .int .i64 kind, .int .i64 age, .int .i64 yrs] w fun e w' => e = .returned (.int .i64 (baseF xs rate kind (age - first).toNat yrs.toNat)) ∧ Below w.heap.size w w' := by
  have hbw : Below w.heap.size w (w.alloc (.cells #[.int .i64 first, .slice A n cap] 30)) := (Below.refl _ w).alloc (Nat.le_refl _) _
  have HB := Lib.hid (Blk.new w 30 #[.int .i64 first, .slice A n cap])
  have HT := Lib.hid (hT.past hbw); clear hT
  have HL := Lib.hid HT.out.len
  obtain ⟨a1, a2⟩ := ha
  obtain ⟨r1, r2⟩ := hr
  obtain ⟨y1, y2⟩ := hy
  obtain ⟨k, hk⟩ := Int.eq_ofNat_of_zero_le (show 0 ≤ age - first by omega)
  obtain ⟨m, hm⟩ := Int.eq_ofNat_of_zero_le y1
  have T1 := T.first0; have T2 := T.first1
  have hE0 : (age - first).toNat = k := by omega
  have hE1 : (age + yrs - first).toNat = k + m := by omega
  have hEm : yrs.toNat = m := by omega
  rw [hE0, hEm]
  clear hk hm hEm
  have HTab := Lib.hid T; clear T
  have hcs := Lib.hid (Blk.agg_past (cs := [.int .i64 first, .slice A n cap]) HB.out 0 [.int .i64 first, .slice A n cap] rfl)
  obtain ⟨b1, b2⟩ := nC_bound HTab.out r1 k
  obtain ⟨b3, b4⟩ := dC_bound HTab.out r1 k
  obtain ⟨b5, b6⟩ := nC_bound HTab.out r1 (k + m)
  obtain ⟨b7, b8⟩ := dC_bound HTab.out r1 (k + m)
  by_cases h0 : kind = 0
  · subst h0
    have Q := Lib.hid (show baseF xs rate 0 k m = nC xs rate k by simp [baseF])
    go_enter Try.func165, Try.ntmps165
    go_wp2_with fail
    refine (spec_l05N_any first A n cap xs rate age _ HT.out HTab.out ⟨r1, r2⟩ ⟨by omega, by omega⟩).mono ?_
    rw [hE0]
    rintro e w1 ⟨rfl, hb1⟩
    go_wp2
    go_ret
    exact ⟨by rw [Q.out]; rfl, hbw.trans (hb1.mono (by simp))⟩
  have Q := Lib.hid (show baseF xs rate kind k m = nC xs rate k - nC xs rate (k + m) by simp [baseF, h0])
  go_enter Try.func165, Try.ntmps165
  go_wp2
  refine wp_region_past (by kernel_rfl) (by kernel_rfl) ?_
  repeat (first | (go_big_quiet_want; (first | (refine quiet_load_agg 30 _ rfl ⟨w.heap.size, 0, none⟩ rfl [.int .i64 first, .slice A n cap] hcs.out _ Try.underlying30 rfl Tab.size ?_)); go_simp; go_big_quiet_on) | go_big_quiet_step ((go_at_call 192; exact past_call (spec_l05N_any first A n cap xs rate _ _ (HT.out.at_past _) HTab.out ⟨by omega, by omega⟩ ⟨by omega, by omega⟩))))
  refine wpQuiet_nil ?_
  rintro _ ⟨y, rfl⟩
  go_wp2
  go_ret
  exact ⟨by rw [Q.out]; rfl, hbw.trans (y.2.mono (by simp))⟩

/-- the reference's rounded-up quotient, where the quotient is not too great -/
theorem spec_l05Up_any (a b c : Int) (w : World) (ha : 0 ≤ a ∧ a < 4398046511104) (hb : 0 ≤ b ∧ b ≤ 1000000000000000000) (hc : 1 ≤ c ∧ c ≤ 1000000000000000000) (hq : a * b / c ≤ 1000000000000000000) :
    Calls Try.prog 131 #[.int .i64 a, .int .i64 b, .int .i64 c] w fun e w' => e = .returned (.int .i64 (upP a b c)) ∧ w = w' := by
  have Q := Lib.hid (show ldP a b c = (a * b / c, a * b % c) by unfold ldP; rw [if_pos hq])
  have h1 : 0 ≤ a * b / c := Int.ediv_nonneg (Int.mul_nonneg ha.1 hb.1) (by omega)
  have h2 : 0 ≤ a * b % c := Int.emod_nonneg _ (by omega)
  have QU := Lib.hid (show upP a b c = a * b / c + (if 0 < a * b % c then 1 else 0) from rfl)
  generalize a * b / c = q at *
  generalize a * b % c = r at *
  by_cases hr : 0 < r
  · rw [if_pos hr] at QU
    have hr1 : 1 ≤ r := hr
    have hmn : min 1 r = 1 := by omega
    go_enter Try.func131, Try.ntmps131
    go_wp2_with fail
    refine (spec_l05Divide_any a b c _ ha hb hc).mono ?_
    rw [Q.out]
    rintro e w1 ⟨rfl, rfl⟩
    go_wp2
    all_goals (go_ret; exact ⟨by rw [QU.out]; first | rfl | (exfalso; omega) | (congr 2; omega) | (congr 2; split <;> omega) , rfl⟩)
  · rw [if_neg hr] at QU
    have hr1 : r = 0 := by omega
    subst hr1
    go_enter Try.func131, Try.ntmps131
    go_wp2_with fail
    refine (spec_l05Divide_any a b c _ ha hb hc).mono ?_
    rw [Q.out]
    rintro e w1 ⟨rfl, rfl⟩
    go_wp2
    go_ret
    exact ⟨by rw [QU.out]; first | rfl | (congr 2; omega), rfl⟩


set_option maxHeartbeats 2000000 in
theorem spec_l07Level_any (first : Int) (A : Option Addr) (n cap : Nat) (xs : List Int) (rate kind age yrs sum : Int) (w : World) (hT : LiesT w A n xs) (T : TabOk first xs) (hr : 0 ≤ rate ∧ rate ≤ 200) (ha : first ≤ age ∧ age ≤ 300) (hy : 0 ≤ yrs ∧ yrs ≤ 120)
    (hs : 0 ≤ sum ∧ sum ≤ 100000000) (hk : kind = 0 ∨ 1 ≤ yrs) (hd : 1 ≤ dC xs rate (age - first).toNat) :
    Calls Try.prog 182 #[.agg #[.int .i64 first, .slice A n cap], .int .i64 rate, .int .i64 kind, .int .i64 age, .int .i64 yrs, .int .i64 sum] w fun e w' =>
      e = .returned (.int .i64 (upP sum (topF xs rate kind (age - first).toNat yrs.toNat) (baseF xs rate kind (age - first).toNat yrs.toNat))) ∧ Below w.heap.size w w' := by
  have hbw : Below w.heap.size w (w.alloc (.cells #[.int .i64 first, .slice A n cap] 30)) := (Below.refl _ w).alloc (Nat.le_refl _) _
  have HB := Lib.hid (Blk.new w 30 #[.int .i64 first, .slice A n cap])
  have HT := Lib.hid (hT.past hbw); clear hT
  obtain ⟨r1, r2⟩ := hr
  obtain ⟨s1, s2⟩ := hs
  have t1 := topF_bound T r1 kind (age - first).toNat yrs.toNat
  have t2 := baseF_bound T r1 kind (age - first).toNat yrs.toNat (by omega)
  have t3 := baseF_pos T r1 kind (age - first).toNat yrs.toNat (by omega)
  have t4 := dC_bound T r1 (age - first).toNat
  have t5 := mul_div_le (a := sum) (m := 1) s1 t1.1 (show 1 ≤ baseF xs rate kind (age - first).toNat yrs.toNat by omega) (by omega)
  have HTab := Lib.hid T; clear T
  have hcs := Lib.hid (Blk.agg_past (cs := [.int .i64 first, .slice A n cap]) HB.out 0 [.int .i64 first, .slice A n cap] rfl)
  go_enter Try.func182, Try.ntmps182
  go_wp2
  refine wp_region_past (by kernel_rfl) (by kernel_rfl) ?_
  repeat (first | (go_big_quiet_want; (first | (refine quiet_load_agg 30 _ rfl ⟨w.heap.size, 0, none⟩ rfl [.int .i64 first, .slice A n cap] hcs.out _ Try.underlying30 rfl Tab.size ?_)); go_simp; go_big_quiet_on) | go_big_quiet_step ((first | (go_at_call 132; exact past_call (spec_l07Top_any first A n cap xs rate kind age yrs _ (HT.out.at_past _) HTab.out ⟨r1, r2⟩ ⟨by omega, by omega⟩ ⟨by omega, by omega⟩)) | (go_at_call 165; exact past_call (spec_l07Base_any first A n cap xs rate kind age yrs _ (HT.out.at_past _) HTab.out ⟨r1, r2⟩ ⟨by omega, by omega⟩ ⟨by omega, by omega⟩)) | (go_at_call 131; exact past_same (spec_l05Up_any sum _ _ _ ⟨by omega, by omega⟩ ⟨by omega, by omega⟩ ⟨by omega, by omega⟩ (by omega))))))
  refine wpQuiet_nil ?_
  rintro _ ⟨y, rfl⟩
  go_wp2
  go_ret
  exact ⟨rfl, hbw.trans (y.2.mono (by simp))⟩

/-- the codes of the arguments, as the reference asks them -/
def code5 (first : Int) (xs : List Int) (rate age : Int) : Int := if tableB first xs = true then (if inR rate 0 200 = true ∧ inR age first 150 = true then 0 else 2) else 1
def code6 (first : Int) (xs : List Int) (rate age : Int) (b : Bool) (yrs : Int) : Int :=
  if code5 first xs rate age = 0 then (if b = true ∧ inR yrs 0 120 = true ∧ age + yrs ≤ 150 then (if dC xs rate (age - first).toNat = 0 then 5 else 0) else 2) else code5 first xs rate age
theorem code5_ok {first : Int} {xs : List Int} {rate age : Int} (h : code5 first xs rate age = 0) : TabOk first xs ∧ (0 ≤ rate ∧ rate ≤ 200) ∧ first ≤ age ∧ age ≤ 150 := by
  unfold code5 at h
  by_cases h1 : tableB first xs = true
  · rw [if_pos h1] at h
    by_cases h2 : inR rate 0 200 = true ∧ inR age first 150 = true
    · exact ⟨table_ok h1, inR_true.1 h2.1, inR_true.1 h2.2⟩
    · rw [if_neg h2] at h; omega
  · rw [if_neg h1] at h; omega

set_option maxHeartbeats 2000000 in
theorem spec_l05Code_any (first : Int) (A : Option Addr) (n cap : Nat) (xs : List Int) (rate age : Int) (w : World) (hT : LiesT w A n xs) (hcap : n ≤ cap) (hf : In64 first) :
    Calls Try.prog 205 #[.agg #[.int .i64 first, .slice A n cap], .int .i64 rate, .int .i64 age] w fun e w' => e = .returned (.int .i64 (code5 first xs rate age)) ∧ Below w.heap.size w w' := by
  have hbw : Below w.heap.size w (w.alloc (.cells #[.int .i64 first, .slice A n cap] 30)) := (Below.refl _ w).alloc (Nat.le_refl _) _
  have HB := Lib.hid (Blk.new w 30 #[.int .i64 first, .slice A n cap])
  have HT := Lib.hid (hT.past hbw); clear hT
  cases h1 : tableB first xs
  · have Q := Lib.hid (show code5 first xs rate age = 1 by simp [code5, h1])
    go_enter Try.func205, Try.ntmps205
    go_wp2_with fail
    refine (spec_IsLifeTable_any first A n cap xs _ HT.out hcap hf).mono ?_
    rw [h1]
    rintro e w1 ⟨rfl, hb1⟩
    go_wp2
    go_ret
    exact ⟨by rw [Q.out]; rfl, hbw.trans (hb1.mono (by simp))⟩
  cases h2 : inR rate 0 200
  · have Q := Lib.hid (show code5 first xs rate age = 2 by simp [code5, h1, h2])
    go_enter Try.func205, Try.ntmps205
    go_wp2_with fail
    refine (spec_IsLifeTable_any first A n cap xs _ HT.out hcap hf).mono ?_
    rw [h1]
    rintro e w1 ⟨rfl, hb1⟩
    go_wp2_with (first | (go_at_call 81; refine (spec_l04Rate_any _ _).mono ?_; rintro e w' ⟨rfl, rfl⟩))
    go_ret
    exact ⟨by rw [Q.out]; rfl, hbw.trans (hb1.mono (by simp))⟩
  cases h3 : inR age first 150
  · have Q := Lib.hid (show code5 first xs rate age = 2 by simp [code5, h1, h2, h3])
    go_enter Try.func205, Try.ntmps205
    go_wp2_with fail
    refine (spec_IsLifeTable_any first A n cap xs _ HT.out hcap hf).mono ?_
    rw [h1]
    rintro e w1 ⟨rfl, hb1⟩
    have c0 : w1.cell? ⟨w.heap.size, 0, none⟩ = some (.int .i64 first) := (HB.out.below' hb1).cell 0
    go_wp2_with (first | (go_at_call 81; refine (spec_l04Rate_any _ _).mono ?_; rintro e w' ⟨rfl, rfl⟩) | (go_at_call 122; refine (spec_l01In_any _ _ _ _).mono ?_; rintro e w' ⟨rfl, rfl⟩))
    go_ret
    exact ⟨by rw [Q.out]; rfl, hbw.trans (hb1.mono (by simp))⟩
  · have Q := Lib.hid (show code5 first xs rate age = 0 by simp [code5, h1, h2, h3])
    go_enter Try.func205, Try.ntmps205
    go_wp2_with fail
    refine (spec_IsLifeTable_any first A n cap xs _ HT.out hcap hf).mono ?_
    rw [h1]
    rintro e w1 ⟨rfl, hb1⟩
    have c0 : w1.cell? ⟨w.heap.size, 0, none⟩ = some (.int .i64 first) := (HB.out.below' hb1).cell 0
    go_wp2_with (first | (go_at_call 81; refine (spec_l04Rate_any _ _).mono ?_; rintro e w' ⟨rfl, rfl⟩) | (go_at_call 122; refine (spec_l01In_any _ _ _ _).mono ?_; rintro e w' ⟨rfl, rfl⟩))
    go_ret
    exact ⟨by rw [Q.out]; rfl, hbw.trans (hb1.mono (by simp))⟩

set_option maxHeartbeats 2000000 in
theorem spec_l06Code_any (first : Int) (A : Option Addr) (n cap : Nat) (xs : List Int) (rate age : Int) (b : Bool) (yrs : Int) (w : World) (hT : LiesT w A n xs) (hcap : n ≤ cap) (hf : In64 first) :
    Calls Try.prog 198 #[.agg #[.int .i64 first, .slice A n cap], .int .i64 rate, .int .i64 age, .bool b, .int .i64 yrs] w fun e w' => e = .returned (.int .i64 (code6 first xs rate age b yrs)) ∧ Below w.heap.size w w' := by
  have hbw : Below w.heap.size w (w.alloc (.cells #[.int .i64 first, .slice A n cap] 30)) := (Below.refl _ w).alloc (Nat.le_refl _) _
  have HB := Lib.hid (Blk.new w 30 #[.int .i64 first, .slice A n cap])
  have HT := Lib.hid (hT.past hbw); clear hT
  by_cases h5 : code5 first xs rate age = 0
  rotate_left
  · have Q := Lib.hid (show code6 first xs rate age b yrs = code5 first xs rate age by unfold code6; rw [if_neg h5])
    go_enter Try.func198, Try.ntmps198
    go_wp2_with fail
    refine (spec_l05Code_any first A n cap xs rate age _ HT.out hcap hf).mono ?_
    rintro e w1 ⟨rfl, hb1⟩
    go_wp2
    go_ret
    exact ⟨by rw [Q.out]; rfl, hbw.trans (hb1.mono (by simp))⟩
  have H5 := Lib.hid h5
  obtain ⟨T, ⟨r1, r2⟩, a1, a2⟩ := code5_ok h5
  have HTab := Lib.hid T; clear T
  clear h5
  by_cases hin : b = true ∧ inR yrs 0 120 = true ∧ age + yrs ≤ 150
  rotate_left
  · have Q := Lib.hid (show code6 first xs rate age b yrs = 2 by unfold code6; rw [if_pos H5.out, if_neg hin])
    cases b
    · go_enter Try.func198, Try.ntmps198
      go_wp2_with fail
      refine (spec_l05Code_any first A n cap xs rate age _ HT.out hcap hf).mono ?_
      rw [H5.out]
      rintro e w1 ⟨rfl, hb1⟩
      go_wp2
      go_ret
      exact ⟨by rw [Q.out]; rfl, hbw.trans (hb1.mono (by simp))⟩
    cases hy : inR yrs 0 120
    · go_enter Try.func198, Try.ntmps198
      go_wp2_with fail
      refine (spec_l05Code_any first A n cap xs rate age _ HT.out hcap hf).mono ?_
      rw [H5.out]
      rintro e w1 ⟨rfl, hb1⟩
      go_wp2_with (first | (go_at_call 122; refine (spec_l01In_any _ _ _ _).mono ?_; rintro e w' ⟨rfl, rfl⟩))
      go_ret
      exact ⟨by rw [Q.out]; rfl, hbw.trans (hb1.mono (by simp))⟩
    have hyy := inR_true.1 hy
    have hlate : ¬ age + yrs ≤ 150 := fun h => hin ⟨rfl, hy, h⟩
    obtain ⟨y1, y2⟩ := hyy
    clear hin
    have T0 := HTab.out.first0
    go_enter Try.func198, Try.ntmps198
    go_wp2_with fail
    refine (spec_l05Code_any first A n cap xs rate age _ HT.out hcap hf).mono ?_
    rw [H5.out]
    rintro e w1 ⟨rfl, hb1⟩
    go_wp2_with (first | (go_at_call 122; refine (spec_l01In_any _ _ _ _).mono ?_; rintro e w' ⟨rfl, rfl⟩))
    go_ret
    exact ⟨by rw [Q.out]; rfl, hbw.trans (hb1.mono (by simp))⟩
  have HIN := Lib.hid hin
  obtain ⟨rfl, hy, he⟩ := hin
  have T0 := HTab.out.first0
  obtain ⟨y1, y2⟩ := inR_true.1 hy
  by_cases hd : dC xs rate (age - first).toNat = 0
  · have Q := Lib.hid (show code6 first xs rate age true yrs = 5 by unfold code6; rw [if_pos H5.out, if_pos HIN.out, if_pos hd])
    have HD := Lib.hid hd; clear hd
    go_enter Try.func198, Try.ntmps198
    go_wp2_with fail
    refine (spec_l05Code_any first A n cap xs rate age _ HT.out hcap hf).mono ?_
    rw [H5.out]
    rintro e w1 ⟨rfl, hb1⟩
    have HB1 := Lib.hid (HB.out.below' hb1)
    have hc1 := Lib.hid (Blk.agg (cs := [.int .i64 first, .slice A n cap]) HB1.out 0 [.int .i64 first, .slice A n cap] rfl)
    have HT1 := Lib.hid (HT.out.past hb1)
    go_wp2_with (first | (go_at_call 122; refine (spec_l01In_any _ _ _ _).mono ?_; rintro e w' ⟨rfl, rfl⟩) | (refine wpList_load_agg rfl 30 _ rfl ⟨w.heap.size, 0, none⟩ rfl [.int .i64 first, .slice A n cap] hc1.out _ Try.underlying30 rfl Tab.size ?_))
    refine (spec_l05D_any first A n cap xs rate age _ HT1.out HTab.out ⟨r1, r2⟩ ⟨by omega, by omega⟩).mono ?_
    rw [HD.out]
    rintro e w2 ⟨rfl, hb2⟩
    go_wp2
    go_ret
    exact ⟨by rw [Q.out]; rfl, hbw.trans ((hb1.mono (by simp)).trans (hb2.mono (by have := hb1.size; simp at this; omega)))⟩
  · have Q := Lib.hid (show code6 first xs rate age true yrs = 0 by unfold code6; rw [if_pos H5.out, if_pos HIN.out, if_neg hd])
    go_enter Try.func198, Try.ntmps198
    go_wp2_with fail
    refine (spec_l05Code_any first A n cap xs rate age _ HT.out hcap hf).mono ?_
    rw [H5.out]
    rintro e w1 ⟨rfl, hb1⟩
    have HB1 := Lib.hid (HB.out.below' hb1)
    have hc1 := Lib.hid (Blk.agg (cs := [.int .i64 first, .slice A n cap]) HB1.out 0 [.int .i64 first, .slice A n cap] rfl)
    have HT1 := Lib.hid (HT.out.past hb1)
    go_wp2_with (first | (go_at_call 122; refine (spec_l01In_any _ _ _ _).mono ?_; rintro e w' ⟨rfl, rfl⟩) | (refine wpList_load_agg rfl 30 _ rfl ⟨w.heap.size, 0, none⟩ rfl [.int .i64 first, .slice A n cap] hc1.out _ Try.underlying30 rfl Tab.size ?_))
    refine (spec_l05D_any first A n cap xs rate age _ HT1.out HTab.out ⟨r1, r2⟩ ⟨by omega, by omega⟩).mono ?_
    rintro e w2 ⟨rfl, hb2⟩
    go_wp2
    go_ret
    exact ⟨by rw [Q.out]; rfl, hbw.trans ((hb1.mono (by simp)).trans (hb2.mono (by have := hb1.size; simp at this; omega)))⟩

end Go.Proofs.Ythcnkcoplgdlkaa
