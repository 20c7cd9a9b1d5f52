/- Contracts of the small functions on numbers: ranges, divisions rounded down and up. Each holds for every argument in the stated range. -/
import Derived.Test.YtlbllonpodckgaaGreatDoorBase
namespace Go.Proofs.YtlbllonpodckgaaGreatDoor
open Go.RowKit Go.BigFrame

/-- n lies from lo to hi -/
def inR (n lo hi : Int) : Bool := decide (lo ≤ n) && decide (n ≤ hi)
theorem inR_true {n lo hi : Int} : inR n lo hi = true ↔ lo ≤ n ∧ n ≤ hi := by simp [inR]
theorem inR_false {n lo hi : Int} : inR n lo hi = false ↔ n < lo ∨ hi < n := by simp only [inR, Bool.and_eq_false_iff, decide_eq_false_iff_not]; omega
theorem inR_mk {n lo hi : Int} (h : lo ≤ n ∧ n ≤ hi) : inR n lo hi = true := inR_true.2 h
/-- a / b rounded up -/
def ceilDiv (a b : Int) : Int := -((-a) / b)

theorem impl_inRange_any (n lo hi : Int) (w : World) :
    Calls Tryz.prog 94 #[.int .i64 n, .int .i64 lo, .int .i64 hi] w fun e w' => e = .returned (.bool (inR n lo hi)) ∧ w = w' := by
  by_cases h : lo ≤ n
  · have e : inR n lo hi = decide (n ≤ hi) := by simp [inR, h]
    rw [e]
    go_enter Tryz.func94, Tryz.ntmps94
    go_wp2
    go_ret
    exact ⟨rfl, rfl⟩
  · have e : inR n lo hi = false := inR_false.2 (.inl (by omega))
    rw [e]
    go_enter Tryz.func94, Tryz.ntmps94
    go_wp2
    go_ret
    exact ⟨rfl, rfl⟩

theorem spec_l01In_any (n lo hi : Int) (w : World) :
    Calls Tryz.prog 121 #[.int .i64 n, .int .i64 lo, .int .i64 hi] w fun e w' => e = .returned (.bool (inR n lo hi)) ∧ w = w' := by
  by_cases h : lo ≤ n
  · have e : inR n lo hi = decide (n ≤ hi) := by simp [inR, h]
    rw [e]
    go_enter Tryz.func121, Tryz.ntmps121
    go_wp2
    go_ret
    exact ⟨rfl, rfl⟩
  · have e : inR n lo hi = false := inR_false.2 (.inl (by omega))
    rw [e]
    go_enter Tryz.func121, Tryz.ntmps121
    go_wp2
    go_ret
    exact ⟨rfl, rfl⟩

theorem impl_isMoney_any (n : Int) (w : World) :
    Calls Tryz.prog 179 #[.int .i64 n] w fun e w' => e = .returned (.bool (inR n (-1000000000000) (1000000000000))) ∧ w = w' := by
  go_enter Tryz.func179, Tryz.ntmps179
  go_wp2_with fail
  refine (impl_inRange_any _ _ _ _).mono ?_
  rintro e w' ⟨rfl, rfl⟩
  go_wp2
  go_ret
  exact ⟨rfl, rfl⟩

theorem spec_l01Money_any (n : Int) (w : World) :
    Calls Tryz.prog 170 #[.int .i64 n] w fun e w' => e = .returned (.bool (inR n (-1000000000000) (1000000000000))) ∧ w = w' := by
  go_enter Tryz.func170, Tryz.ntmps170
  go_wp2_with fail
  refine (spec_l01In_any _ _ _ _).mono ?_
  rintro e w' ⟨rfl, rfl⟩
  go_wp2
  go_ret
  exact ⟨rfl, rfl⟩




theorem impl_isRate_any (n : Int) (w : World) :
    Calls Tryz.prog 138 #[.int .i64 n] w fun e w' => e = .returned (.bool (inR n (0) (200))) ∧ w = w' := by
  go_enter Tryz.func138, Tryz.ntmps138
  go_wp2_with fail
  refine (impl_inRange_any _ _ _ _).mono ?_
  rintro e w' ⟨rfl, rfl⟩
  go_wp2
  go_ret
  exact ⟨rfl, rfl⟩

theorem spec_l04Rate_any (n : Int) (w : World) :
    Calls Tryz.prog 188 #[.int .i64 n] w fun e w' => e = .returned (.bool (inR n (0) (200))) ∧ w = w' := by
  go_enter Tryz.func188, Tryz.ntmps188
  go_wp2_with fail
  refine (spec_l01In_any _ _ _ _).mono ?_
  rintro e w' ⟨rfl, rfl⟩
  go_wp2
  go_ret
  exact ⟨rfl, rfl⟩

theorem impl_isYears_any (n : Int) (w : World) :
    Calls Tryz.prog 189 #[.int .i64 n] w fun e w' => e = .returned (.bool (inR n (0) (120))) ∧ w = w' := by
  go_enter Tryz.func189, Tryz.ntmps189
  go_wp2_with fail
  refine (impl_inRange_any _ _ _ _).mono ?_
  rintro e w' ⟨rfl, rfl⟩
  go_wp2
  go_ret
  exact ⟨rfl, rfl⟩

theorem impl_isMonth_any (n : Int) (w : World) :
    Calls Tryz.prog 176 #[.int .i64 n] w fun e w' => e = .returned (.bool (inR n (0) (35999))) ∧ w = w' := by
  go_enter Tryz.func176, Tryz.ntmps176
  go_wp2_with fail
  refine (impl_inRange_any _ _ _ _).mono ?_
  rintro e w' ⟨rfl, rfl⟩
  go_wp2
  go_ret
  exact ⟨rfl, rfl⟩

theorem spec_l02Month_any (n : Int) (w : World) :
    Calls Tryz.prog 119 #[.int .i64 n] w fun e w' => e = .returned (.bool (inR n (0) (35999))) ∧ w = w' := by
  go_enter Tryz.func119, Tryz.ntmps119
  go_wp2_with fail
  refine (spec_l01In_any _ _ _ _).mono ?_
  rintro e w' ⟨rfl, rfl⟩
  go_wp2
  go_ret
  exact ⟨rfl, rfl⟩

theorem impl_isAccount_any (n : Int) (w : World) :
    Calls Tryz.prog 177 #[.int .i64 n] w fun e w' => e = .returned (.bool (inR n (0) (9))) ∧ w = w' := by
  go_enter Tryz.func177, Tryz.ntmps177
  go_wp2_with fail
  refine (impl_inRange_any _ _ _ _).mono ?_
  rintro e w' ⟨rfl, rfl⟩
  go_wp2
  go_ret
  exact ⟨rfl, rfl⟩

theorem spec_l22Account_any (n : Int) (w : World) :
    Calls Tryz.prog 120 #[.int .i64 n] w fun e w' => e = .returned (.bool (inR n (0) (9))) ∧ w = w' := by
  go_enter Tryz.func120, Tryz.ntmps120
  go_wp2_with fail
  refine (spec_l01In_any _ _ _ _).mono ?_
  rintro e w' ⟨rfl, rfl⟩
  go_wp2
  go_ret
  exact ⟨rfl, rfl⟩

theorem spec_l07Sum_any (n : Int) (w : World) :
    Calls Tryz.prog 101 #[.int .i64 n] w fun e w' => e = .returned (.bool (inR n (1) (100000000))) ∧ w = w' := by
  go_enter Tryz.func101, Tryz.ntmps101
  go_wp2_with fail
  refine (spec_l01In_any _ _ _ _).mono ?_
  rintro e w' ⟨rfl, rfl⟩
  go_wp2
  go_ret
  exact ⟨rfl, rfl⟩



theorem tdiv_bounds {a b : Int} (hb : 1 ≤ b) (ha : -4000000000000000000 ≤ a) (ha' : a ≤ 4000000000000000000) : -4000000000000000000 ≤ a.tdiv b ∧ a.tdiv b ≤ 4000000000000000000 := by
  rcases Int.le_total 0 a with h | h
  · rw [Int.tdiv_eq_ediv_of_nonneg h]
    exact ⟨by have := Int.ediv_nonneg h (by omega : 0 ≤ b); omega, by have := Int.ediv_le_self b h; omega⟩
  · obtain ⟨c, rfl⟩ : ∃ c, a = -c := ⟨-a, by omega⟩
    rw [Int.neg_tdiv, Int.tdiv_eq_ediv_of_nonneg (by omega)]
    have h1 := Int.ediv_nonneg (by omega : 0 ≤ c) (by omega : 0 ≤ b)
    have h2 := Int.ediv_le_self b (by omega : 0 ≤ c)
    omega
theorem down_neg {a b : Int} (hb : 1 ≤ b) (h : a.tmod b < 0) : a / b = a.tdiv b - 1 := by
  have e1 := Int.tdiv_mul_add_tmod a b |>.symm
  have e2 := Int.mul_ediv_add_emod a b |>.symm
  have h1 := Int.emod_nonneg a (by omega : b ≠ 0)
  have h2 := Int.emod_lt_of_pos a (by omega : 0 < b)
  have h3 : -b < a.tmod b := by
    rcases Int.le_total 0 a with h0 | h0
    · have := Int.tmod_nonneg b h0; omega
    · obtain ⟨c, rfl⟩ : ∃ c, a = -c := ⟨-a, by omega⟩
      rw [Int.neg_tmod]
      have := Int.tmod_lt_of_pos c (by omega : 0 < b)
      omega
  have h4 : b * (a / b) < b * (a.tdiv b - 1 + 1) := by rw [Int.mul_comm b (a.tdiv b - 1 + 1), show a.tdiv b - 1 + 1 = a.tdiv b by omega]; omega
  have h5 : b * (a.tdiv b - 1) < b * (a / b + 1) := by
    rw [Int.mul_sub, Int.mul_add, Int.mul_comm b (a.tdiv b)]; omega
  have h6 := Int.lt_of_mul_lt_mul_left h4 (by omega)
  have h7 := Int.lt_of_mul_lt_mul_left h5 (by omega)
  omega
theorem down_pos {a b : Int} (hb : 1 ≤ b) (h : ¬ a.tmod b < 0) : a / b = a.tdiv b := by
  have e1 := Int.tdiv_mul_add_tmod a b |>.symm
  have e2 := Int.mul_ediv_add_emod a b |>.symm
  have h1 := Int.emod_nonneg a (by omega : b ≠ 0)
  have h2 := Int.emod_lt_of_pos a (by omega : 0 < b)
  have h3 : a.tmod b < b := Int.tmod_lt_of_pos a (by omega : 0 < b)
  have h4 : b * (a / b) < b * (a.tdiv b + 1) := by rw [Int.mul_add, Int.mul_comm b (a.tdiv b)]; omega
  have h5 : b * (a.tdiv b) < b * (a / b + 1) := by
    rw [Int.mul_add, Int.mul_comm b (a.tdiv b)]; omega
  have h6 := Int.lt_of_mul_lt_mul_left h4 (by omega)
  have h7 := Int.lt_of_mul_lt_mul_left h5 (by omega)
  omega

theorem impl_down_any (a b : Int) (w : World) (hb : 1 ≤ b) (hb' : b ≤ 4000000000000000000) (ha : -4000000000000000000 ≤ a) (ha' : a ≤ 4000000000000000000) :
    Calls Tryz.prog 191 #[.int .i64 a, .int .i64 b] w fun e w' => e = .returned (.int .i64 (a / b)) ∧ w = w' := by
  by_cases h : a.tmod b < 0
  · have e : a / b = a.tdiv b - 1 := down_neg hb h
    rw [e]
    have hq := tdiv_bounds hb ha ha'
    obtain ⟨hq1, hq2⟩ := hq
    have hbz : ¬ b = 0 := by omega
    go_enter Tryz.func191, Tryz.ntmps191
    go_wp2
    go_ret
    exact ⟨rfl, rfl⟩
  · have e : a / b = a.tdiv b := down_pos hb h
    rw [e]
    have hq := tdiv_bounds hb ha ha'
    obtain ⟨hq1, hq2⟩ := hq
    have hbz : ¬ b = 0 := by omega
    go_enter Tryz.func191, Tryz.ntmps191
    go_wp2
    go_ret
    exact ⟨rfl, rfl⟩

theorem spec_l01Down_any (a b : Int) (w : World) (hb : 1 ≤ b) (hb' : b ≤ 4000000000000000000) (ha : -4000000000000000000 ≤ a) (ha' : a ≤ 4000000000000000000) :
    Calls Tryz.prog 193 #[.int .i64 a, .int .i64 b] w fun e w' => e = .returned (.int .i64 (a / b)) ∧ w = w' := by
  by_cases h : a.tmod b < 0
  · have e : a / b = a.tdiv b - 1 := down_neg hb h
    rw [e]
    have hq := tdiv_bounds hb ha ha'
    obtain ⟨hq1, hq2⟩ := hq
    have hbz : ¬ b = 0 := by omega
    go_enter Tryz.func193, Tryz.ntmps193
    go_wp2
    go_ret
    exact ⟨rfl, rfl⟩
  · have e : a / b = a.tdiv b := down_pos hb h
    rw [e]
    have hq := tdiv_bounds hb ha ha'
    obtain ⟨hq1, hq2⟩ := hq
    have hbz : ¬ b = 0 := by omega
    go_enter Tryz.func193, Tryz.ntmps193
    go_wp2
    go_ret
    exact ⟨rfl, rfl⟩

theorem ediv_bounds {a b : Int} (hb : 1 ≤ b) (ha : -4000000000000000000 ≤ a) (ha' : a ≤ 4000000000000000000) : -4000000000000000000 ≤ a / b ∧ a / b ≤ 4000000000000000000 := by
  have e2 := Int.mul_ediv_add_emod a b |>.symm
  have h1 := Int.emod_nonneg a (by omega : b ≠ 0)
  have h2 := Int.emod_lt_of_pos a (by omega : 0 < b)
  rcases Int.le_total 0 a with h | h
  · exact ⟨by have := Int.ediv_nonneg h (by omega : 0 ≤ b); omega, by have := Int.ediv_le_self b h; omega⟩
  · have h3 : a / b ≤ 0 := by
      rcases Int.le_total (a / b) 0 with x | x
      · exact x
      · have := Int.mul_nonneg (by omega : 0 ≤ b) x; 
        rcases Int.lt_or_le 0 (a / b) with y | y
        · have := Int.mul_pos (by omega : 0 < b) y
          omega
        · exact y
    have h4 : a ≤ a / b := by
      have h5 : b * (a / b) ≤ 1 * (a / b) := Int.mul_le_mul_of_nonpos_right (by omega) h3
      have h6 : a / b ≥ a := by
        rcases Int.lt_or_le (a / b) a with y | y
        · exfalso
          have h7 : b * (a / b + 1) ≤ b * a := Int.mul_le_mul_of_nonneg_left (by omega) (by omega)
          have h8 : b * a ≤ 1 * a := Int.mul_le_mul_of_nonpos_right (by omega) h
          rw [Int.mul_add] at h7
          omega
        · exact y
      exact h6
    omega

theorem impl_up_any (a b : Int) (w : World) (hb : 1 ≤ b) (hb' : b ≤ 4000000000000000000) (ha : -4000000000000000000 ≤ a) (ha' : a ≤ 4000000000000000000) :
    Calls Tryz.prog 159 #[.int .i64 a, .int .i64 b] w fun e w' => e = .returned (.int .i64 (ceilDiv a b)) ∧ w = w' := by
  have hq := ediv_bounds hb (a := -a) (by omega) (by omega)
  obtain ⟨hq1, hq2⟩ := hq
  unfold ceilDiv
  go_enter Tryz.func159, Tryz.ntmps159
  go_wp2_with fail
  refine (impl_down_any _ _ _ hb hb' (by omega) (by omega)).mono ?_
  rintro e w' ⟨rfl, rfl⟩
  go_wp2
  go_ret
  exact ⟨rfl, rfl⟩

theorem spec_l01Up_any (a b : Int) (w : World) (hb : 1 ≤ b) (hb' : b ≤ 4000000000000000000) (ha : -4000000000000000000 ≤ a) (ha' : a ≤ 4000000000000000000) :
    Calls Tryz.prog 162 #[.int .i64 a, .int .i64 b] w fun e w' => e = .returned (.int .i64 (ceilDiv a b)) ∧ w = w' := by
  have hq := ediv_bounds hb (a := -a) (by omega) (by omega)
  obtain ⟨hq1, hq2⟩ := hq
  unfold ceilDiv
  go_enter Tryz.func162, Tryz.ntmps162
  go_wp2_with fail
  refine (spec_l01Down_any _ _ _ hb hb' (by omega) (by omega)).mono ?_
  rintro e w' ⟨rfl, rfl⟩
  go_wp2
  go_ret
  exact ⟨rfl, rfl⟩

end Go.Proofs.YtlbllonpodckgaaGreatDoor
