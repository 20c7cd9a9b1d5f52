/- The arithmetic of a long division of two words by one: plain facts on numbers. No condition. -/
import Derived.IntWalk
import Derived.Laws.MathBits
import Derived.Lib.BitFns
import Derived.Laws.Bits64b
import Derived.Lib.ItoaNum
namespace Go.Proofs.Ytoabhnobgdjgkaa
/-! ### a long division by two digits: one digit -/
theorem mul_le_left {a b c : Int} (h : a ≤ b) (hc : 0 ≤ c) : a * c ≤ b * c := Int.mul_le_mul_of_nonneg_right h hc
/-- the digit is too great -/
theorem digit_great {u d y1 y0 q r : Int} (h1 : q * y1 + r = u) (ht : 4294967296 ≤ q ∨ 4294967296 * r + d < q * y0) (hu : u < y1 * 4294967296 + y0) (hd : 0 ≤ d ∧ d < 4294967296) (hy1 : 0 ≤ y1) (hy0 : 0 ≤ y0) :
    4294967296 * u + d < q * y1 * 4294967296 + q * y0 := by
  rcases ht with ht | ht
  · have e1 := mul_le_left ht hy1
    have e0 := mul_le_left ht hy0
    omega
  · omega
/-- the digit is not too great -/
theorem digit_fit {u d y1 y0 q r : Int} (h1 : q * y1 + r = u) (ht : ¬ (4294967296 * r + d < q * y0)) : q * y1 * 4294967296 + q * y0 ≤ 4294967296 * u + d := by omega
theorem digit_break {u d y1 y0 q r : Int} (h1 : q * y1 + r = u) (hr : 4294967296 ≤ r) (hu : u < y1 * 4294967296 + y0) (hd : 0 ≤ d) (hy1 : 1 ≤ y1) (hy0 : 0 ≤ y0 ∧ y0 < 4294967296) : q * y1 * 4294967296 + q * y0 ≤ 4294967296 * u + d := by
  have hq : q < 4294967296 := by
    rcases Int.lt_or_le q 4294967296 with h | h
    · exact h
    · have := mul_le_left h (by omega : 0 ≤ y1)
      omega
  have := mul_le_left (show q ≤ 4294967296 by omega) hy0.1
  omega
theorem digit_down {y1 q r u : Int} (h1 : q * y1 + r = u) : (q - 1) * y1 + (r + y1) = u := by rw [Int.sub_mul]; omega
theorem digit_next {u d y1 y0 q : Int} (h : 4294967296 * u + d < q * y1 * 4294967296 + q * y0) : 4294967296 * u + d < (q - 1) * y1 * 4294967296 + (q - 1) * y0 + (y1 * 4294967296 + y0) := by
  rw [Int.sub_mul q 1 y1, Int.sub_mul q 1 y0]; omega
theorem digit_pos {u d y1 y0 q : Int} (h : 4294967296 * u + d < q * y1 * 4294967296 + q * y0) (hu : 0 ≤ u) (hd : 0 ≤ d) (hy1 : 0 ≤ y1) (hy0 : 0 ≤ y0) : 1 ≤ q := by
  rcases Int.lt_or_le q 1 with h1 | h1
  · have e1 := mul_le_left (show q ≤ 0 by omega) hy1
    have e0 := mul_le_left (show q ≤ 0 by omega) hy0
    omega
  · exact h1
theorem digit_lt {u d y1 y0 q : Int} (h : q * y1 * 4294967296 + q * y0 ≤ 4294967296 * u + d) (hu : u < y1 * 4294967296 + y0) (hd : d < 4294967296) (hy1 : 0 ≤ y1) (hy0 : 0 ≤ y0) : q < 4294967296 := by
  rcases Int.lt_or_le q 4294967296 with h1 | h1
  · exact h1
  · have e1 := mul_le_left h1 hy1
    have e0 := mul_le_left h1 hy0
    omega
/-- the first guess -/
theorem digit_first {u d y1 y0 : Int} (hy1 : 1 ≤ y1) (hy0 : 0 ≤ y0) (hu : 0 ≤ u) (hd : d < 4294967296) :
    u / y1 * y1 + (u - u / y1 * y1) = u ∧ 0 ≤ u - u / y1 * y1 ∧ u - u / y1 * y1 < y1 ∧ 0 ≤ u / y1 ∧
    4294967296 * u + d < u / y1 * y1 * 4294967296 + u / y1 * y0 + (y1 * 4294967296 + y0) := by
  have e := Int.mul_ediv_add_emod u y1
  rw [Int.mul_comm] at e
  have h1 := Int.emod_nonneg u (by omega : y1 ≠ 0)
  have h2 := Int.emod_lt_of_pos u (by omega : 0 < y1)
  have h3 := Int.ediv_nonneg hu (by omega : 0 ≤ y1)
  have h4 := Int.mul_nonneg h3 hy0
  omega
theorem wrap_rest {a b c v : Int} (h : v = a + b - c) (h0 : 0 ≤ v ∧ v < 18446744073709551616) : IntKind.u64.wrap (IntKind.u64.wrap (IntKind.u64.wrap a + b) - IntKind.u64.wrap c) = v := by
  simp only [IntKind.wrap_u64]; omega
/-- the whole division: n * p = u * 2^64 + m, digits q1, q0, rest r -/
theorem div_whole {n y p u m q1 q0 v r : Int} (hp : 1 ≤ p) (hn : n * p = u * 18446744073709551616 + m) (h1 : u * 4294967296 + m / 4294967296 = q1 * (y * p) + v) (h0 : v * 4294967296 + m % 4294967296 = q0 * (y * p) + r) (hr : 0 ≤ r ∧ r < y * p) (hy : 1 ≤ y) :
    q1 * 4294967296 + q0 = n / y ∧ r / p = n % y := by
  have e : n * p = (q1 * 4294967296 + q0) * (y * p) + r := by
    have hm := Int.mul_ediv_add_emod m 4294967296
    rw [Int.add_mul, Int.mul_right_comm q1]
    omega
  have e2 : r = (n - (q1 * 4294967296 + q0) * y) * p := by
    rw [Int.sub_mul, Int.mul_assoc]; omega
  have h3 : r / p = n - (q1 * 4294967296 + q0) * y := by rw [e2, Int.mul_ediv_cancel _ (by omega)]
  generalize hQ : q1 * 4294967296 + q0 = Q at *
  have h5 : 0 ≤ n - Q * y := by rw [← h3]; exact Int.ediv_nonneg hr.1 (by omega)
  have h6 : n - Q * y < y := by
    rw [← h3]; exact Int.ediv_lt_of_lt_mul (by omega) hr.2
  have h7 : n / y = Q := by
    have h8 : n = y * Q + (n - Q * y) := by rw [Int.mul_comm y]; omega
    rw [h8, Int.add_comm, Int.add_mul_ediv_left _ _ (by omega), Int.ediv_eq_zero_of_lt h5 h6]; omega
  refine ⟨h7.symm, ?_⟩
  have h9 := Int.mul_ediv_add_emod n y
  rw [h7] at h9
  rw [h3, Int.mul_comm Q]; omega
theorem norm_facts {y : Nat} (h1 : 1 ≤ y) (h2 : y < 18446744073709551616) : ∃ s : Nat, s = 64 - Lib.bitLen y ∧ s ≤ 63 ∧ Lib.bitLen y ≤ 64 ∧ 9223372036854775808 ≤ y * 2 ^ s ∧ y * 2 ^ s < 18446744073709551616 := by
  obtain ⟨a, b, c⟩ := Lib.bitLenAux_bounds 64 y h2 (by omega)
  have hL : Lib.bitLen y ≤ 64 := Lib.bitLen_le y 64 (Nat.le_refl _) h2
  have hu : Lib.bitLenAux 64 y = Lib.bitLen y := rfl
  rw [hu] at a b c
  refine ⟨64 - Lib.bitLen y, rfl, by omega, hL, ?_, ?_⟩
  · have : 2 ^ (Lib.bitLen y - 1) * 2 ^ (64 - Lib.bitLen y) ≤ y * 2 ^ (64 - Lib.bitLen y) := Nat.mul_le_mul_right _ b
    rw [← Nat.pow_add, show Lib.bitLen y - 1 + (64 - Lib.bitLen y) = 63 by omega] at this
    exact this
  · have : y * 2 ^ (64 - Lib.bitLen y) < 2 ^ Lib.bitLen y * 2 ^ (64 - Lib.bitLen y) := Nat.mul_lt_mul_of_pos_right c (Nat.two_pow_pos _)
    rw [← Nat.pow_add, show Lib.bitLen y + (64 - Lib.bitLen y) = 64 by omega] at this
    exact this
theorem high_or {hi lo s : Nat} (hs : s ≤ 63) (hlo : lo < 18446744073709551616) : (hi * 2 ^ s) ||| (lo / 2 ^ (64 - s)) = hi * 2 ^ s + lo / 2 ^ (64 - s) ∧ lo / 2 ^ (64 - s) < 18446744073709551616 := by
  have h : lo / 2 ^ (64 - s) < 2 ^ s := by
    apply Nat.div_lt_of_lt_mul
    rw [← Nat.pow_add, show 64 - s + s = 64 by omega]; exact hlo
  refine ⟨?_, by have := Nat.div_le_self lo (2 ^ (64 - s)); omega⟩
  have := Nat.two_pow_add_eq_or_of_lt h hi
  rw [Nat.mul_comm (2 ^ s) hi] at this
  exact this.symm
/-- the shifted dividend -/
theorem shift_whole {hi lo s : Nat} (hs : s ≤ 63) : (hi * 18446744073709551616 + lo) * 2 ^ s = (hi * 2 ^ s + lo / 2 ^ (64 - s)) * 18446744073709551616 + lo * 2 ^ s % 18446744073709551616 := by
  have e : lo * 2 ^ s / 18446744073709551616 = lo / 2 ^ (64 - s) := by
    have : (18446744073709551616 : Nat) = 2 ^ (64 - s) * 2 ^ s := by rw [← Nat.pow_add, show 64 - s + s = 64 by omega]
    rw [this, Nat.mul_div_mul_right _ _ (Nat.two_pow_pos _)]
  have e2 := Nat.div_add_mod (lo * 2 ^ s) 18446744073709551616
  rw [e] at e2
  rw [Nat.add_mul, Nat.add_mul, Nat.mul_right_comm]
  omega
theorem high_lt {hi lo y s : Nat} (hs : s ≤ 63) (h : hi < y) (hlo : lo < 18446744073709551616) : hi * 2 ^ s + lo / 2 ^ (64 - s) < y * 2 ^ s := by
  have h1 : lo / 2 ^ (64 - s) < 2 ^ s := by
    apply Nat.div_lt_of_lt_mul
    rw [← Nat.pow_add, show 64 - s + s = 64 by omega]; exact hlo
  have h2 : (hi + 1) * 2 ^ s ≤ y * 2 ^ s := Nat.mul_le_mul_right _ h
  rw [Nat.add_mul] at h2
  omega
end Go.Proofs.Ytoabhnobgdjgkaa
