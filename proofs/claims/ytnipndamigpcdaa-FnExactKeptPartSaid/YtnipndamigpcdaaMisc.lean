/- KeptPart and CashEach: the program's and the reference's contracts over one plain function each. -/
import Derived.Test.YtnipndamigpcdaaNum
namespace Go.Proofs.Ytnipndamigpcdaa
open Go.RowKit

def keptPart (a s : Int) : Int × Int := if inR a 0 1000000000 = true ∧ inR s 0 500 = true then (ceilDiv (a * s) 1000, 0) else (0, 2)
theorem mul_bounds {a s : Int} (ha : inR a 0 1000000000 = true) (hs : inR s 0 500 = true) : 0 ≤ a * s ∧ a * s ≤ 500000000000 := by
  rw [inR_true] at ha hs
  exact ⟨Int.mul_nonneg ha.1 hs.1, Int.le_trans (Int.mul_le_mul ha.2 hs.2 hs.1 (by omega)) (by omega)⟩
theorem impl_isSurplus_any (a s : Int) (w : World) :
    Calls Try.prog 30 #[.int .i64 a, .int .i64 s] w fun e w' => e = .returned (.bool (inR a 0 1000000000 && inR s 0 500)) ∧ w = w' := by
  by_cases h : inR a 0 1000000000 = true
  · rw [h, Bool.true_and]
    go_enter Try.func30, Try.ntmps30
    go_wp2_with fail
    refine (impl_isAmount_any _ _).mono ?_
    rintro e w' ⟨rfl, rfl⟩
    go_wp2_with fail
    refine (impl_inRange_any _ _ _ _).mono ?_
    rintro e w' ⟨rfl, rfl⟩
    go_wp2
    go_ret
    exact ⟨rfl, rfl⟩
  · have h : inR a 0 1000000000 = false := by simpa using h
    rw [h, Bool.false_and]
    go_enter Try.func30, Try.ntmps30
    go_wp2_with fail
    refine (impl_isAmount_any _ _).mono ?_
    rintro e w' ⟨rfl, rfl⟩
    go_wp2
    go_ret
    exact ⟨rfl, rfl⟩
theorem impl_KeptPart_any (a s : Int) (w : World) :
    Calls Try.prog 12 #[.int .i64 a, .int .i64 s] w fun e w' => e = .returned (.tuple #[.int .i64 (keptPart a s).1, .int .i64 (keptPart a s).2]) ∧ w = w' := by
  by_cases h : inR a 0 1000000000 = true ∧ inR s 0 500 = true
  · rw [keptPart, if_pos h]
    obtain ⟨h1, h2⟩ := h
    obtain ⟨hm1, hm2⟩ := mul_bounds h1 h2
    go_enter Try.func12, Try.ntmps12
    go_wp2_with fail
    refine (impl_isSurplus_any _ _ _).mono ?_
    rintro e w' ⟨rfl, rfl⟩
    go_wp2_with fail
    refine (impl_up_any _ _ _ (by omega) (by omega) (by omega) (by omega)).mono ?_
    rintro e w' ⟨rfl, rfl⟩
    go_wp2
    go_ret2
    exact ⟨rfl, rfl⟩
  · have hb : (inR a 0 1000000000 && inR s 0 500) = false := by simpa using h
    rw [keptPart, if_neg h]
    have HB := Lib.hid hb
    clear h hb
    go_enter Try.func12, Try.ntmps12
    go_wp2_with fail
    refine (impl_isSurplus_any _ _ _).mono ?_
    rw [HB.out]
    rintro e w' ⟨rfl, rfl⟩
    go_wp2
    go_ret2
    exact ⟨rfl, rfl⟩
theorem spec_KeptPart_any (a s : Int) (w : World) :
    Calls Try.prog 11 #[.int .i64 a, .int .i64 s] w fun e w' => e = .returned (.tuple #[.int .i64 (keptPart a s).1, .int .i64 (keptPart a s).2]) ∧ w = w' := by
  by_cases h1 : inR a 0 1000000000 = true
  · by_cases h2 : inR s 0 500 = true
    · rw [keptPart, if_pos ⟨h1, h2⟩]
      obtain ⟨hm1, hm2⟩ := mul_bounds h1 h2
      go_enter Try.func11, Try.ntmps11
      go_wp2_with fail
      refine (spec_l19Amount_any _ _).mono ?_
      rintro e w' ⟨rfl, rfl⟩
      go_wp2_with fail
      refine (spec_l01In_any _ _ _ _).mono ?_
      rintro e w' ⟨rfl, rfl⟩
      go_wp2_with fail
      refine (spec_l01Up_any _ _ _ (by omega) (by omega) (by omega) (by omega)).mono ?_
      rintro e w' ⟨rfl, rfl⟩
      go_wp2
      go_ret2
      exact ⟨rfl, rfl⟩
    · rw [keptPart, if_neg (by simp [h2])]
      have h2 : inR s 0 500 = false := by simpa using h2
      go_enter Try.func11, Try.ntmps11
      go_wp2_with fail
      refine (spec_l19Amount_any _ _).mono ?_
      rintro e w' ⟨rfl, rfl⟩
      go_wp2_with fail
      refine (spec_l01In_any _ _ _ _).mono ?_
      rintro e w' ⟨rfl, rfl⟩
      go_wp2
      go_ret2
      exact ⟨rfl, rfl⟩
  · rw [keptPart, if_neg (by simp [h1])]
    have h1 : inR a 0 1000000000 = false := by simpa using h1
    go_enter Try.func11, Try.ntmps11
    go_wp2_with fail
    refine (spec_l19Amount_any _ _).mono ?_
    rintro e w' ⟨rfl, rfl⟩
    go_wp2
    go_ret2
    exact ⟨rfl, rfl⟩
end Go.Proofs.Ytnipndamigpcdaa
