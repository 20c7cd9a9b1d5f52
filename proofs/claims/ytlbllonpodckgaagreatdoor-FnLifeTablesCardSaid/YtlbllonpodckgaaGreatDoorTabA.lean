/- Life tables: the deaths and the lives at an age: the program's and the reference's contracts. -/
import Derived.Test.YtlbllonpodckgaaGreatDoorLife2
import Derived.Test.YtlbllonpodckgaaGreatDoorLifeS
namespace Go.Proofs.YtlbllonpodckgaaGreatDoor
open Go.RowKit Go.BigFrame

def ageP (first : Int) (xs : List Int) (age : Int) : Int := if tableB first xs = true then (if inR age first 150 = true then 0 else 2) else 1
def deathsP (first : Int) (xs : List Int) (age : Int) : Int × Int := if ageP first xs age = 0 then (lv xs (age - first).toNat - lv xs ((age - first).toNat + 1), 0) else (0, ageP first xs age)
def livesP (first : Int) (xs : List Int) (age : Int) : Int × Int := if ageP first xs age = 0 then (lv xs (age - first).toNat, 0) else (0, ageP first xs age)
theorem ageP_ok {first age : Int} {xs : List Int} (h : ageP first xs age = 0) : tableB first xs = true ∧ first ≤ age ∧ age ≤ 150 := by
  unfold ageP at h
  split at h
  · rename_i h1
    split at h
    · rename_i h2
      exact ⟨h1, inR_true.1 h2⟩
    · cases h
  · cases h

theorem impl_checkAge_any (first : Int) (A : Option Addr) (n cap : Nat) (xs : List Int) (age : Int) (w : World) (hT : LiesT w A n xs) (hcap : n ≤ cap) (hf : In64 first) :
    Calls Tryz.prog 108 #[.agg #[.int .i64 first, .slice A n cap], .int .i64 age] w fun e w' => e = .returned (.int .i64 (ageP first xs age)) ∧ Below w.heap.size w w' := by
  have hbw : Below w.heap.size w (w.alloc (.cells #[.int .i64 first, .slice A n cap] 40)) := (Below.refl _ w).alloc (Nat.le_refl _) _
  have HB := Lib.hid (Blk.new w 40 #[.int .i64 first, .slice A n cap])
  have HT := Lib.hid (hT.past hbw); clear hT
  go_enter Tryz.func108, Tryz.ntmps108
  go_wp2_with fail
  refine (impl_IsLifeTable_any first A n cap xs _ HT.out hcap hf).mono ?_
  rintro e w1 ⟨rfl, hb1⟩
  have b0 : w1.cell? ⟨w.heap.size, 0, none⟩ = some (.int .i64 first) := (HB.out.below' hb1).cell 0
  have b1 : w1.cell? ⟨w.heap.size, 1, none⟩ = some (.slice A n cap) := (HB.out.below' hb1).cell 1
  cases ht : tableB first xs
  · have Q := Lib.hid (show ageP first xs age = 1 by unfold ageP; rw [ht]; rfl)
    go_wp2
    go_ret
    exact ⟨by rw [Q.out]; rfl, hbw.trans (hb1.mono (by simp))⟩
  · cases ha : inR age first 150
    · have Q := Lib.hid (show ageP first xs age = 2 by unfold ageP; rw [ht, ha]; rfl)
      go_wp2_with (first | (go_at_call 94; refine (impl_inRange_any _ _ _ _).mono ?_; rintro e w' ⟨rfl, rfl⟩))
      go_ret
      exact ⟨by rw [Q.out]; rfl, hbw.trans (hb1.mono (by simp))⟩
    · have Q := Lib.hid (show ageP first xs age = 0 by unfold ageP; rw [ht, ha]; rfl)
      go_wp2_with (first | (go_at_call 94; refine (impl_inRange_any _ _ _ _).mono ?_; rintro e w' ⟨rfl, rfl⟩))
      go_ret
      exact ⟨by rw [Q.out]; rfl, hbw.trans (hb1.mono (by simp))⟩

theorem spec_l03Code_any (first : Int) (A : Option Addr) (n cap : Nat) (xs : List Int) (age : Int) (w : World) (hT : LiesT w A n xs) (hcap : n ≤ cap) (hf : In64 first) :
    Calls Tryz.prog 110 #[.agg #[.int .i64 first, .slice A n cap], .int .i64 age] w fun e w' => e = .returned (.int .i64 (ageP first xs age)) ∧ Below w.heap.size w w' := by
  have hbw : Below w.heap.size w (w.alloc (.cells #[.int .i64 first, .slice A n cap] 40)) := (Below.refl _ w).alloc (Nat.le_refl _) _
  have HB := Lib.hid (Blk.new w 40 #[.int .i64 first, .slice A n cap])
  have HT := Lib.hid (hT.past hbw); clear hT
  go_enter Tryz.func110, Tryz.ntmps110
  go_wp2_with fail
  refine (spec_IsLifeTable_any first A n cap xs _ HT.out hcap hf).mono ?_
  rintro e w1 ⟨rfl, hb1⟩
  have b0 : w1.cell? ⟨w.heap.size, 0, none⟩ = some (.int .i64 first) := (HB.out.below' hb1).cell 0
  have b1 : w1.cell? ⟨w.heap.size, 1, none⟩ = some (.slice A n cap) := (HB.out.below' hb1).cell 1
  cases ht : tableB first xs
  · have Q := Lib.hid (show ageP first xs age = 1 by unfold ageP; rw [ht]; rfl)
    go_wp2
    go_ret
    exact ⟨by rw [Q.out]; rfl, hbw.trans (hb1.mono (by simp))⟩
  · cases ha : inR age first 150
    · have Q := Lib.hid (show ageP first xs age = 2 by unfold ageP; rw [ht, ha]; rfl)
      go_wp2_with (first | (go_at_call 121; refine (spec_l01In_any _ _ _ _).mono ?_; rintro e w' ⟨rfl, rfl⟩))
      go_ret
      exact ⟨by rw [Q.out]; rfl, hbw.trans (hb1.mono (by simp))⟩
    · have Q := Lib.hid (show ageP first xs age = 0 by unfold ageP; rw [ht, ha]; rfl)
      go_wp2_with (first | (go_at_call 121; refine (spec_l01In_any _ _ _ _).mono ?_; rintro e w' ⟨rfl, rfl⟩))
      go_ret
      exact ⟨by rw [Q.out]; rfl, hbw.trans (hb1.mono (by simp))⟩

set_option maxHeartbeats 1000000 in
theorem impl_DeathsAt_any (first : Int) (A : Option Addr) (n cap : Nat) (xs : List Int) (age : Int) (w : World) (hT : LiesT w A n xs) (hcap : n ≤ cap) (hf : In64 first) :
    Calls Tryz.prog 44 #[.agg #[.int .i64 first, .slice A n cap], .int .i64 age] w fun e w' => e = .returned (.tuple #[.int .i64 (deathsP first xs age).1, .int .i64 (deathsP first xs age).2]) ∧ Below w.heap.size w w' := by
  have hbw : Below w.heap.size w (w.alloc (.cells #[.int .i64 first, .slice A n cap] 40)) := (Below.refl _ w).alloc (Nat.le_refl _) _
  have HB := Lib.hid (Blk.new w 40 #[.int .i64 first, .slice A n cap])
  have HT := Lib.hid (hT.past hbw); clear hT
  go_enter Tryz.func44, Tryz.ntmps44
  go_wp2_with fail
  refine (impl_checkAge_any first A n cap xs age _ HT.out hcap hf).mono ?_
  rintro e w1 ⟨rfl, hb1⟩
  have b0 : w1.cell? ⟨w.heap.size, 0, none⟩ = some (.int .i64 first) := (HB.out.below' hb1).cell 0
  have b1 : w1.cell? ⟨w.heap.size, 1, none⟩ = some (.slice A n cap) := (HB.out.below' hb1).cell 1
  by_cases hc : ageP first xs age = 0
  rotate_left
  · have Q := Lib.hid (show deathsP first xs age = (0, ageP first xs age) by unfold deathsP; rw [if_neg hc])
    have hcb : (ageP first xs age == 0) = false := by simpa using hc
    go_wp2
    go_ret2
    exact ⟨by rw [Q.out]; rfl, hbw.trans (hb1.mono (by simp))⟩
  obtain ⟨htb, ha1, ha2⟩ := ageP_ok hc
  have HTab := Lib.hid (table_ok htb)
  have T0 := HTab.out.first0
  have T1 := HTab.out.first1
  have HT1 := Lib.hid (HT.out.past hb1)
  have Q := Lib.hid (show deathsP first xs age = (lv xs (age - first).toNat - lv xs ((age - first).toNat + 1), 0) by unfold deathsP; rw [if_pos hc])
  have l1 := HTab.out.nonneg (age - first).toNat
  have l2 := HTab.out.most (age - first).toNat
  have l3 := HTab.out.nonneg ((age - first).toNat + 1)
  have l4 := HTab.out.most ((age - first).toNat + 1)
  rw [hc]
  clear htb
  go_wp2_with fail
  refine (impl_LifeTable_deaths_any first A n cap xs age _ HT1.out HTab.out ⟨ha1, by omega⟩).mono ?_
  rintro e w2 ⟨rfl, hb2⟩
  go_wp2
  go_ret2
  exact ⟨by rw [Q.out]; rfl, hbw.trans ((hb1.trans (hb2.mono hb1.size)).mono (by simp))⟩

set_option maxHeartbeats 1000000 in
theorem impl_LivesAt_any (first : Int) (A : Option Addr) (n cap : Nat) (xs : List Int) (age : Int) (w : World) (hT : LiesT w A n xs) (hcap : n ≤ cap) (hf : In64 first) :
    Calls Tryz.prog 46 #[.agg #[.int .i64 first, .slice A n cap], .int .i64 age] w fun e w' => e = .returned (.tuple #[.int .i64 (livesP first xs age).1, .int .i64 (livesP first xs age).2]) ∧ Below w.heap.size w w' := by
  have hbw : Below w.heap.size w (w.alloc (.cells #[.int .i64 first, .slice A n cap] 40)) := (Below.refl _ w).alloc (Nat.le_refl _) _
  have HB := Lib.hid (Blk.new w 40 #[.int .i64 first, .slice A n cap])
  have HT := Lib.hid (hT.past hbw); clear hT
  go_enter Tryz.func46, Tryz.ntmps46
  go_wp2_with fail
  refine (impl_checkAge_any first A n cap xs age _ HT.out hcap hf).mono ?_
  rintro e w1 ⟨rfl, hb1⟩
  have b0 : w1.cell? ⟨w.heap.size, 0, none⟩ = some (.int .i64 first) := (HB.out.below' hb1).cell 0
  have b1 : w1.cell? ⟨w.heap.size, 1, none⟩ = some (.slice A n cap) := (HB.out.below' hb1).cell 1
  by_cases hc : ageP first xs age = 0
  rotate_left
  · have Q := Lib.hid (show livesP first xs age = (0, ageP first xs age) by unfold livesP; rw [if_neg hc])
    have hcb : (ageP first xs age == 0) = false := by simpa using hc
    go_wp2
    go_ret2
    exact ⟨by rw [Q.out]; rfl, hbw.trans (hb1.mono (by simp))⟩
  obtain ⟨htb, ha1, ha2⟩ := ageP_ok hc
  have HTab := Lib.hid (table_ok htb)
  have T0 := HTab.out.first0
  have T1 := HTab.out.first1
  have HT1 := Lib.hid (HT.out.past hb1)
  have Q := Lib.hid (show livesP first xs age = (lv xs (age - first).toNat, 0) by unfold livesP; rw [if_pos hc])
  have l1 := HTab.out.nonneg (age - first).toNat
  have l2 := HTab.out.most (age - first).toNat
  have l3 := HTab.out.nonneg ((age - first).toNat + 1)
  have l4 := HTab.out.most ((age - first).toNat + 1)
  rw [hc]
  clear htb
  go_wp2_with fail
  refine (impl_LifeTable_lives_any first A n cap xs age _ HT1.out HTab.out ⟨ha1, by omega⟩).mono ?_
  rintro e w2 ⟨rfl, hb2⟩
  go_wp2
  go_ret2
  exact ⟨by rw [Q.out]; rfl, hbw.trans ((hb1.trans (hb2.mono hb1.size)).mono (by simp))⟩

set_option maxHeartbeats 1000000 in
theorem spec_LivesAt_any (first : Int) (A : Option Addr) (n cap : Nat) (xs : List Int) (age : Int) (w : World) (hT : LiesT w A n xs) (hcap : n ≤ cap) (hf : In64 first) :
    Calls Tryz.prog 47 #[.agg #[.int .i64 first, .slice A n cap], .int .i64 age] w fun e w' => e = .returned (.tuple #[.int .i64 (livesP first xs age).1, .int .i64 (livesP first xs age).2]) ∧ Below w.heap.size w w' := by
  have hbw : Below w.heap.size w (w.alloc (.cells #[.int .i64 first, .slice A n cap] 40)) := (Below.refl _ w).alloc (Nat.le_refl _) _
  have HB := Lib.hid (Blk.new w 40 #[.int .i64 first, .slice A n cap])
  have HT := Lib.hid (hT.past hbw); clear hT
  go_enter Tryz.func47, Tryz.ntmps47
  go_wp2_with fail
  refine (spec_l03Code_any first A n cap xs age _ HT.out hcap hf).mono ?_
  rintro e w1 ⟨rfl, hb1⟩
  have b0 : w1.cell? ⟨w.heap.size, 0, none⟩ = some (.int .i64 first) := (HB.out.below' hb1).cell 0
  have b1 : w1.cell? ⟨w.heap.size, 1, none⟩ = some (.slice A n cap) := (HB.out.below' hb1).cell 1
  by_cases hc : ageP first xs age = 0
  rotate_left
  · have Q := Lib.hid (show livesP first xs age = (0, ageP first xs age) by unfold livesP; rw [if_neg hc])
    have hcb : (ageP first xs age == 0) = false := by simpa using hc
    go_wp2
    go_ret2
    exact ⟨by rw [Q.out]; rfl, hbw.trans (hb1.mono (by simp))⟩
  obtain ⟨htb, ha1, ha2⟩ := ageP_ok hc
  have HTab := Lib.hid (table_ok htb)
  have T0 := HTab.out.first0
  have T1 := HTab.out.first1
  have HT1 := Lib.hid (HT.out.past hb1)
  have Q := Lib.hid (show livesP first xs age = (lv xs (age - first).toNat, 0) by unfold livesP; rw [if_pos hc])
  have l1 := HTab.out.nonneg (age - first).toNat
  have l2 := HTab.out.most (age - first).toNat
  have l3 := HTab.out.nonneg ((age - first).toNat + 1)
  have l4 := HTab.out.most ((age - first).toNat + 1)
  rw [hc]
  clear htb
  go_wp2_with fail
  refine (spec_l03Lives_any first A n cap xs age _ HT1.out ⟨T0, T1⟩ ⟨ha1, by omega⟩).mono ?_
  rintro e w2 ⟨rfl, hb2⟩
  go_wp2
  go_ret2
  exact ⟨by rw [Q.out]; rfl, hbw.trans ((hb1.trans (hb2.mono hb1.size)).mono (by simp))⟩

set_option maxHeartbeats 1000000 in
theorem spec_DeathsAt_any (first : Int) (A : Option Addr) (n cap : Nat) (xs : List Int) (age : Int) (w : World) (hT : LiesT w A n xs) (hcap : n ≤ cap) (hf : In64 first) :
    Calls Tryz.prog 45 #[.agg #[.int .i64 first, .slice A n cap], .int .i64 age] w fun e w' => e = .returned (.tuple #[.int .i64 (deathsP first xs age).1, .int .i64 (deathsP first xs age).2]) ∧ Below w.heap.size w w' := by
  have hbw : Below w.heap.size w (w.alloc (.cells #[.int .i64 first, .slice A n cap] 40)) := (Below.refl _ w).alloc (Nat.le_refl _) _
  have HB := Lib.hid (Blk.new w 40 #[.int .i64 first, .slice A n cap])
  have HT := Lib.hid (hT.past hbw); clear hT
  go_enter Tryz.func45, Tryz.ntmps45
  go_wp2_with fail
  refine (spec_l03Code_any first A n cap xs age _ HT.out hcap hf).mono ?_
  rintro e w1 ⟨rfl, hb1⟩
  have b0 : w1.cell? ⟨w.heap.size, 0, none⟩ = some (.int .i64 first) := (HB.out.below' hb1).cell 0
  have b1 : w1.cell? ⟨w.heap.size, 1, none⟩ = some (.slice A n cap) := (HB.out.below' hb1).cell 1
  by_cases hc : ageP first xs age = 0
  rotate_left
  · have Q := Lib.hid (show deathsP first xs age = (0, ageP first xs age) by unfold deathsP; rw [if_neg hc])
    have hcb : (ageP first xs age == 0) = false := by simpa using hc
    go_wp2
    go_ret2
    exact ⟨by rw [Q.out]; rfl, hbw.trans (hb1.mono (by simp))⟩
  obtain ⟨htb, ha1, ha2⟩ := ageP_ok hc
  have HTab := Lib.hid (table_ok htb)
  have T0 := HTab.out.first0
  have T1 := HTab.out.first1
  have HT1 := Lib.hid (HT.out.past hb1)
  have Q := Lib.hid (show deathsP first xs age = (lv xs (age - first).toNat - lv xs ((age - first).toNat + 1), 0) by unfold deathsP; rw [if_pos hc])
  have l1 := HTab.out.nonneg (age - first).toNat
  have l2 := HTab.out.most (age - first).toNat
  have l3 := HTab.out.nonneg ((age - first).toNat + 1)
  have l4 := HTab.out.most ((age - first).toNat + 1)
  rw [hc]
  clear htb
  by_cases h150 : age = 150
  · have hz := HTab.out.top
    have Q2 := Lib.hid (show lv xs (age - first).toNat - lv xs ((age - first).toNat + 1) = 0 by
      rw [HTab.out.zero (age - first).toNat (by omega), HTab.out.zero ((age - first).toNat + 1) (by omega)]; rfl)
    subst h150
    go_wp2
    go_ret2
    exact ⟨by rw [Q.out, Q2.out]; rfl, hbw.trans (hb1.mono (by simp))⟩
  have h150b : (age == 150) = false := by simpa using h150
  have hE := (show (age + 1 - first).toNat = (age - first).toNat + 1 by omega)
  have hcs := Lib.hid (Blk.agg_past (cs := [.int .i64 first, .slice A n cap]) (HB.out.below' hb1) 0 [.int .i64 first, .slice A n cap] rfl)
  clear b0 b1
  go_wp2
  refine wp_region_past (by kernel_rfl) (by kernel_rfl) ?_
  repeat (first | (go_big_quiet_want; (first | (refine quiet_load_agg 40 _ rfl ⟨w.heap.size, 0, none⟩ rfl [.int .i64 first, .slice A n cap] hcs.out _ Tryz.underlying40 rfl Tab.size ?_)); go_simp; go_big_quiet_on) | go_big_quiet_step ((go_at_call 111; exact past_call (spec_l03Lives_any first A n cap xs _ _ (HT1.out.at_past _) ⟨T0, T1⟩ ⟨by omega, by omega⟩))))
  refine wpQuiet_nil ?_
  rintro _ ⟨y, rfl⟩
  go_wp2
  go_ret2
  exact ⟨by rw [Q.out]; rfl, hbw.trans ((hb1.trans (y.2.mono (by have := hb1.size; omega))).mono (by simp))⟩
end Go.Proofs.YtlbllonpodckgaaGreatDoor
