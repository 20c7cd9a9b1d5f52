/- Contracts of the small functions on numbers: ranges, divisions rounded down and up. Each holds for every argument in the stated range. -/
import Derived.Test.YtbfoolfojeohpaaDoorBase
namespace Go.Proofs.YtbfoolfojeohpaaDoor
open Go.RowKit Go.BigFrame

/-- n lies from lo to hi -/
def inR (n lo hi : Int) : Bool := decide (lo ≤ n) && decide (n ≤ hi)
theorem inR_true {n lo hi : Int} : inR n lo hi = true ↔ lo ≤ n ∧ n ≤ hi := by simp [inR]
theorem inR_false {n lo hi : Int} : inR n lo hi = false ↔ n < lo ∨ hi < n := by simp only [inR, Bool.and_eq_false_iff, decide_eq_false_iff_not]; omega
theorem inR_mk {n lo hi : Int} (h : lo ≤ n ∧ n ≤ hi) : inR n lo hi = true := inR_true.2 h
/-- a / b rounded up -/
def ceilDiv (a b : Int) : Int := -((-a) / b)

theorem impl_inRange_any (n lo hi : Int) (w : World) :
    Calls Tryd.prog 36 #[.int .i64 n, .int .i64 lo, .int .i64 hi] w fun e w' => e = .returned (.bool (inR n lo hi)) ∧ w = w' := by
  by_cases h : lo ≤ n
  · have e : inR n lo hi = decide (n ≤ hi) := by simp [inR, h]
    rw [e]
    go_enter Tryd.func36, Tryd.ntmps36
    go_wp2
    go_ret
    exact ⟨rfl, rfl⟩
  · have e : inR n lo hi = false := inR_false.2 (.inl (by omega))
    rw [e]
    go_enter Tryd.func36, Tryd.ntmps36
    go_wp2
    go_ret
    exact ⟨rfl, rfl⟩

theorem spec_l01In_any (n lo hi : Int) (w : World) :
    Calls Tryd.prog 33 #[.int .i64 n, .int .i64 lo, .int .i64 hi] w fun e w' => e = .returned (.bool (inR n lo hi)) ∧ w = w' := by
  by_cases h : lo ≤ n
  · have e : inR n lo hi = decide (n ≤ hi) := by simp [inR, h]
    rw [e]
    go_enter Tryd.func33, Tryd.ntmps33
    go_wp2
    go_ret
    exact ⟨rfl, rfl⟩
  · have e : inR n lo hi = false := inR_false.2 (.inl (by omega))
    rw [e]
    go_enter Tryd.func33, Tryd.ntmps33
    go_wp2
    go_ret
    exact ⟨rfl, rfl⟩

theorem impl_isMoney_any (n : Int) (w : World) :
    Calls Tryd.prog 39 #[.int .i64 n] w fun e w' => e = .returned (.bool (inR n (-1000000000000) (1000000000000))) ∧ w = w' := by
  go_enter Tryd.func39, Tryd.ntmps39
  go_wp2_with fail
  refine (impl_inRange_any _ _ _ _).mono ?_
  rintro e w' ⟨rfl, rfl⟩
  go_wp2
  go_ret
  exact ⟨rfl, rfl⟩








theorem impl_isMonth_any (n : Int) (w : World) :
    Calls Tryd.prog 34 #[.int .i64 n] w fun e w' => e = .returned (.bool (inR n (0) (35999))) ∧ w = w' := by
  go_enter Tryd.func34, Tryd.ntmps34
  go_wp2_with fail
  refine (impl_inRange_any _ _ _ _).mono ?_
  rintro e w' ⟨rfl, rfl⟩
  go_wp2
  go_ret
  exact ⟨rfl, rfl⟩

theorem spec_l02Month_any (n : Int) (w : World) :
    Calls Tryd.prog 31 #[.int .i64 n] w fun e w' => e = .returned (.bool (inR n (0) (35999))) ∧ w = w' := by
  go_enter Tryd.func31, Tryd.ntmps31
  go_wp2_with fail
  refine (spec_l01In_any _ _ _ _).mono ?_
  rintro e w' ⟨rfl, rfl⟩
  go_wp2
  go_ret
  exact ⟨rfl, rfl⟩

theorem impl_isAccount_any (n : Int) (w : World) :
    Calls Tryd.prog 35 #[.int .i64 n] w fun e w' => e = .returned (.bool (inR n (0) (9))) ∧ w = w' := by
  go_enter Tryd.func35, Tryd.ntmps35
  go_wp2_with fail
  refine (impl_inRange_any _ _ _ _).mono ?_
  rintro e w' ⟨rfl, rfl⟩
  go_wp2
  go_ret
  exact ⟨rfl, rfl⟩

theorem spec_l22Account_any (n : Int) (w : World) :
    Calls Tryd.prog 32 #[.int .i64 n] w fun e w' => e = .returned (.bool (inR n (0) (9))) ∧ w = w' := by
  go_enter Tryd.func32, Tryd.ntmps32
  go_wp2_with fail
  refine (spec_l01In_any _ _ _ _).mono ?_
  rintro e w' ⟨rfl, rfl⟩
  go_wp2
  go_ret
  exact ⟨rfl, rfl⟩




theorem tdiv_bounds {a b : Int} (hb : 1 ≤ b) (ha : -4000000000000000000 ≤ a) (ha' : a ≤ 4000000000000000000) : -4000000000000000000 ≤ a.tdiv b ∧ a.tdiv b ≤ 4000000000000000000 := by
  rcases Int.le_total 0 a with h | h
  · rw [Int.tdiv_eq_ediv_of_nonneg h]
    exact ⟨by have := Int.ediv_nonneg h (by omega : 0 ≤ b); omega, by have := Int.ediv_le_self b h; omega⟩
  · obtain ⟨c, rfl⟩ : ∃ c, a = -c := ⟨-a, by omega⟩
    rw [Int.neg_tdiv, Int.tdiv_eq_ediv_of_nonneg (by omega)]
    have h1 := Int.ediv_nonneg (by omega : 0 ≤ c) (by omega : 0 ≤ b)
    have h2 := Int.ediv_le_self b (by omega : 0 ≤ c)
    omega
theorem down_neg {a b : Int} (hb : 1 ≤ b) (h : a.tmod b < 0) : a / b = a.tdiv b - 1 := by
  have e1 := Int.tdiv_mul_add_tmod a b |>.symm
  have e2 := Int.mul_ediv_add_emod a b |>.symm
  have h1 := Int.emod_nonneg a (by omega : b ≠ 0)
  have h2 := Int.emod_lt_of_pos a (by omega : 0 < b)
  have h3 : -b < a.tmod b := by
    rcases Int.le_total 0 a with h0 | h0
    · have := Int.tmod_nonneg b h0; omega
    · obtain ⟨c, rfl⟩ : ∃ c, a = -c := ⟨-a, by omega⟩
      rw [Int.neg_tmod]
      have := Int.tmod_lt_of_pos c (by omega : 0 < b)
      omega
  have h4 : b * (a / b) < b * (a.tdiv b - 1 + 1) := by rw [Int.mul_comm b (a.tdiv b - 1 + 1), show a.tdiv b - 1 + 1 = a.tdiv b by omega]; omega
  have h5 : b * (a.tdiv b - 1) < b * (a / b + 1) := by
    rw [Int.mul_sub, Int.mul_add, Int.mul_comm b (a.tdiv b)]; omega
  have h6 := Int.lt_of_mul_lt_mul_left h4 (by omega)
  have h7 := Int.lt_of_mul_lt_mul_left h5 (by omega)
  omega
theorem down_pos {a b : Int} (hb : 1 ≤ b) (h : ¬ a.tmod b < 0) : a / b = a.tdiv b := by
  have e1 := Int.tdiv_mul_add_tmod a b |>.symm
  have e2 := Int.mul_ediv_add_emod a b |>.symm
  have h1 := Int.emod_nonneg a (by omega : b ≠ 0)
  have h2 := Int.emod_lt_of_pos a (by omega : 0 < b)
  have h3 : a.tmod b < b := Int.tmod_lt_of_pos a (by omega : 0 < b)
  have h4 : b * (a / b) < b * (a.tdiv b + 1) := by rw [Int.mul_add, Int.mul_comm b (a.tdiv b)]; omega
  have h5 : b * (a.tdiv b) < b * (a / b + 1) := by
    rw [Int.mul_add, Int.mul_comm b (a.tdiv b)]; omega
  have h6 := Int.lt_of_mul_lt_mul_left h4 (by omega)
  have h7 := Int.lt_of_mul_lt_mul_left h5 (by omega)
  omega



theorem ediv_bounds {a b : Int} (hb : 1 ≤ b) (ha : -4000000000000000000 ≤ a) (ha' : a ≤ 4000000000000000000) : -4000000000000000000 ≤ a / b ∧ a / b ≤ 4000000000000000000 := by
  have e2 := Int.mul_ediv_add_emod a b |>.symm
  have h1 := Int.emod_nonneg a (by omega : b ≠ 0)
  have h2 := Int.emod_lt_of_pos a (by omega : 0 < b)
  rcases Int.le_total 0 a with h | h
  · exact ⟨by have := Int.ediv_nonneg h (by omega : 0 ≤ b); omega, by have := Int.ediv_le_self b h; omega⟩
  · have h3 : a / b ≤ 0 := by
      rcases Int.le_total (a / b) 0 with x | x
      · exact x
      · have := Int.mul_nonneg (by omega : 0 ≤ b) x; 
        rcases Int.lt_or_le 0 (a / b) with y | y
        · have := Int.mul_pos (by omega : 0 < b) y
          omega
        · exact y
    have h4 : a ≤ a / b := by
      have h5 : b * (a / b) ≤ 1 * (a / b) := Int.mul_le_mul_of_nonpos_right (by omega) h3
      have h6 : a / b ≥ a := by
        rcases Int.lt_or_le (a / b) a with y | y
        · exfalso
          have h7 : b * (a / b + 1) ≤ b * a := Int.mul_le_mul_of_nonneg_left (by omega) (by omega)
          have h8 : b * a ≤ 1 * a := Int.mul_le_mul_of_nonpos_right (by omega) h
          rw [Int.mul_add] at h7
          omega
        · exact y
      exact h6
    omega



end Go.Proofs.YtbfoolfojeohpaaDoor
