/- Parts of a proof, one after another: DivP, Div, Div2. No condition. -/
import Derived.Test.YtkdfdbcpbgganaaGreatDoorK1
import Derived.Test.YtkdfdbcpbgganaaGreatDoorK5
import Derived.IntWalk
import Derived.Laws.MathBits
import Derived.Lib.BitFns
import Derived.Laws.Bits64b
import Derived.Lib.ItoaNum
/- The arithmetic of a long division of two words by one: plain facts on numbers. No condition. -/
section
namespace Go.Proofs.YtkdfdbcpbgganaaGreatDoor
/-! ### a long division by two digits: one digit -/
theorem mul_le_left {a b c : Int} (h : a ≤ b) (hc : 0 ≤ c) : a * c ≤ b * c := Int.mul_le_mul_of_nonneg_right h hc
/-- the digit is too great -/
theorem digit_great {u d y1 y0 q r : Int} (h1 : q * y1 + r = u) (ht : 4294967296 ≤ q ∨ 4294967296 * r + d < q * y0) (hu : u < y1 * 4294967296 + y0) (hd : 0 ≤ d ∧ d < 4294967296) (hy1 : 0 ≤ y1) (hy0 : 0 ≤ y0) :
    4294967296 * u + d < q * y1 * 4294967296 + q * y0 := by
  rcases ht with ht | ht
  · have e1 := mul_le_left ht hy1
    have e0 := mul_le_left ht hy0
    omega
  · omega
/-- the digit is not too great -/
theorem digit_fit {u d y1 y0 q r : Int} (h1 : q * y1 + r = u) (ht : ¬ (4294967296 * r + d < q * y0)) : q * y1 * 4294967296 + q * y0 ≤ 4294967296 * u + d := by omega
theorem digit_break {u d y1 y0 q r : Int} (h1 : q * y1 + r = u) (hr : 4294967296 ≤ r) (hu : u < y1 * 4294967296 + y0) (hd : 0 ≤ d) (hy1 : 1 ≤ y1) (hy0 : 0 ≤ y0 ∧ y0 < 4294967296) : q * y1 * 4294967296 + q * y0 ≤ 4294967296 * u + d := by
  have hq : q < 4294967296 := by
    rcases Int.lt_or_le q 4294967296 with h | h
    · exact h
    · have := mul_le_left h (by omega : 0 ≤ y1)
      omega
  have := mul_le_left (show q ≤ 4294967296 by omega) hy0.1
  omega
theorem digit_down {y1 q r u : Int} (h1 : q * y1 + r = u) : (q - 1) * y1 + (r + y1) = u := by rw [Int.sub_mul]; omega
theorem digit_next {u d y1 y0 q : Int} (h : 4294967296 * u + d < q * y1 * 4294967296 + q * y0) : 4294967296 * u + d < (q - 1) * y1 * 4294967296 + (q - 1) * y0 + (y1 * 4294967296 + y0) := by
  rw [Int.sub_mul q 1 y1, Int.sub_mul q 1 y0]; omega
theorem digit_pos {u d y1 y0 q : Int} (h : 4294967296 * u + d < q * y1 * 4294967296 + q * y0) (hu : 0 ≤ u) (hd : 0 ≤ d) (hy1 : 0 ≤ y1) (hy0 : 0 ≤ y0) : 1 ≤ q := by
  rcases Int.lt_or_le q 1 with h1 | h1
  · have e1 := mul_le_left (show q ≤ 0 by omega) hy1
    have e0 := mul_le_left (show q ≤ 0 by omega) hy0
    omega
  · exact h1
theorem digit_lt {u d y1 y0 q : Int} (h : q * y1 * 4294967296 + q * y0 ≤ 4294967296 * u + d) (hu : u < y1 * 4294967296 + y0) (hd : d < 4294967296) (hy1 : 0 ≤ y1) (hy0 : 0 ≤ y0) : q < 4294967296 := by
  rcases Int.lt_or_le q 4294967296 with h1 | h1
  · exact h1
  · have e1 := mul_le_left h1 hy1
    have e0 := mul_le_left h1 hy0
    omega
/-- the first guess -/
theorem digit_first {u d y1 y0 : Int} (hy1 : 1 ≤ y1) (hy0 : 0 ≤ y0) (hu : 0 ≤ u) (hd : d < 4294967296) :
    u / y1 * y1 + (u - u / y1 * y1) = u ∧ 0 ≤ u - u / y1 * y1 ∧ u - u / y1 * y1 < y1 ∧ 0 ≤ u / y1 ∧
    4294967296 * u + d < u / y1 * y1 * 4294967296 + u / y1 * y0 + (y1 * 4294967296 + y0) := by
  have e := Int.mul_ediv_add_emod u y1
  rw [Int.mul_comm] at e
  have h1 := Int.emod_nonneg u (by omega : y1 ≠ 0)
  have h2 := Int.emod_lt_of_pos u (by omega : 0 < y1)
  have h3 := Int.ediv_nonneg hu (by omega : 0 ≤ y1)
  have h4 := Int.mul_nonneg h3 hy0
  omega
theorem wrap_rest {a b c v : Int} (h : v = a + b - c) (h0 : 0 ≤ v ∧ v < 18446744073709551616) : IntKind.u64.wrap (IntKind.u64.wrap (IntKind.u64.wrap a + b) - IntKind.u64.wrap c) = v := by
  simp only [IntKind.wrap_u64]; omega
/-- the whole division: n * p = u * 2^64 + m, digits q1, q0, rest r -/
theorem div_whole {n y p u m q1 q0 v r : Int} (hp : 1 ≤ p) (hn : n * p = u * 18446744073709551616 + m) (h1 : u * 4294967296 + m / 4294967296 = q1 * (y * p) + v) (h0 : v * 4294967296 + m % 4294967296 = q0 * (y * p) + r) (hr : 0 ≤ r ∧ r < y * p) (hy : 1 ≤ y) :
    q1 * 4294967296 + q0 = n / y ∧ r / p = n % y := by
  have e : n * p = (q1 * 4294967296 + q0) * (y * p) + r := by
    have hm := Int.mul_ediv_add_emod m 4294967296
    rw [Int.add_mul, Int.mul_right_comm q1]
    omega
  have e2 : r = (n - (q1 * 4294967296 + q0) * y) * p := by
    rw [Int.sub_mul, Int.mul_assoc]; omega
  have h3 : r / p = n - (q1 * 4294967296 + q0) * y := by rw [e2, Int.mul_ediv_cancel _ (by omega)]
  generalize hQ : q1 * 4294967296 + q0 = Q at *
  have h5 : 0 ≤ n - Q * y := by rw [← h3]; exact Int.ediv_nonneg hr.1 (by omega)
  have h6 : n - Q * y < y := by
    rw [← h3]; exact Int.ediv_lt_of_lt_mul (by omega) hr.2
  have h7 : n / y = Q := by
    have h8 : n = y * Q + (n - Q * y) := by rw [Int.mul_comm y]; omega
    rw [h8, Int.add_comm, Int.add_mul_ediv_left _ _ (by omega), Int.ediv_eq_zero_of_lt h5 h6]; omega
  refine ⟨h7.symm, ?_⟩
  have h9 := Int.mul_ediv_add_emod n y
  rw [h7] at h9
  rw [h3, Int.mul_comm Q]; omega
theorem norm_facts {y : Nat} (h1 : 1 ≤ y) (h2 : y < 18446744073709551616) : ∃ s : Nat, s = 64 - Lib.bitLen y ∧ s ≤ 63 ∧ Lib.bitLen y ≤ 64 ∧ 9223372036854775808 ≤ y * 2 ^ s ∧ y * 2 ^ s < 18446744073709551616 := by
  obtain ⟨a, b, c⟩ := Lib.bitLenAux_bounds 64 y h2 (by omega)
  have hL : Lib.bitLen y ≤ 64 := Lib.bitLen_le y 64 (Nat.le_refl _) h2
  have hu : Lib.bitLenAux 64 y = Lib.bitLen y := rfl
  rw [hu] at a b c
  refine ⟨64 - Lib.bitLen y, rfl, by omega, hL, ?_, ?_⟩
  · have : 2 ^ (Lib.bitLen y - 1) * 2 ^ (64 - Lib.bitLen y) ≤ y * 2 ^ (64 - Lib.bitLen y) := Nat.mul_le_mul_right _ b
    rw [← Nat.pow_add, show Lib.bitLen y - 1 + (64 - Lib.bitLen y) = 63 by omega] at this
    exact this
  · have : y * 2 ^ (64 - Lib.bitLen y) < 2 ^ Lib.bitLen y * 2 ^ (64 - Lib.bitLen y) := Nat.mul_lt_mul_of_pos_right c (Nat.two_pow_pos _)
    rw [← Nat.pow_add, show Lib.bitLen y + (64 - Lib.bitLen y) = 64 by omega] at this
    exact this
theorem high_or {hi lo s : Nat} (hs : s ≤ 63) (hlo : lo < 18446744073709551616) : (hi * 2 ^ s) ||| (lo / 2 ^ (64 - s)) = hi * 2 ^ s + lo / 2 ^ (64 - s) ∧ lo / 2 ^ (64 - s) < 18446744073709551616 := by
  have h : lo / 2 ^ (64 - s) < 2 ^ s := by
    apply Nat.div_lt_of_lt_mul
    rw [← Nat.pow_add, show 64 - s + s = 64 by omega]; exact hlo
  refine ⟨?_, by have := Nat.div_le_self lo (2 ^ (64 - s)); omega⟩
  have := Nat.two_pow_add_eq_or_of_lt h hi
  rw [Nat.mul_comm (2 ^ s) hi] at this
  exact this.symm
/-- the shifted dividend -/
theorem shift_whole {hi lo s : Nat} (hs : s ≤ 63) : (hi * 18446744073709551616 + lo) * 2 ^ s = (hi * 2 ^ s + lo / 2 ^ (64 - s)) * 18446744073709551616 + lo * 2 ^ s % 18446744073709551616 := by
  have e : lo * 2 ^ s / 18446744073709551616 = lo / 2 ^ (64 - s) := by
    have : (18446744073709551616 : Nat) = 2 ^ (64 - s) * 2 ^ s := by rw [← Nat.pow_add, show 64 - s + s = 64 by omega]
    rw [this, Nat.mul_div_mul_right _ _ (Nat.two_pow_pos _)]
  have e2 := Nat.div_add_mod (lo * 2 ^ s) 18446744073709551616
  rw [e] at e2
  rw [Nat.add_mul, Nat.add_mul, Nat.mul_right_comm]
  omega
theorem high_lt {hi lo y s : Nat} (hs : s ≤ 63) (h : hi < y) (hlo : lo < 18446744073709551616) : hi * 2 ^ s + lo / 2 ^ (64 - s) < y * 2 ^ s := by
  have h1 : lo / 2 ^ (64 - s) < 2 ^ s := by
    apply Nat.div_lt_of_lt_mul
    rw [← Nat.pow_add, show 64 - s + s = 64 by omega]; exact hlo
  have h2 : (hi + 1) * 2 ^ s ≤ y * 2 ^ s := Nat.mul_le_mul_right _ h
  rw [Nat.add_mul] at h2
  omega
end Go.Proofs.YtkdfdbcpbgganaaGreatDoor
end

/- A product divided by a number: the library's long division, the program's and the reference's functions. -/
section
namespace Go.Proofs.YtkdfdbcpbgganaaGreatDoor
open Go.RowKit Go.BigFrame

theorem LeadingZeros64_at (y : Int) (s : Nat) (w : World) (h0 : 0 ≤ y) (h1 : y ≤ 18446744073709551615) (hs : s + Lib.bitLen y.toNat = 64) :
    Calls Tryz.prog 153 #[.int .u64 y] w fun e w' => e = .returned (.int .i64 s) ∧ w = w' :=
  (Tryz.bits_LeadingZeros64 y w h0 h1).mono fun e w' h => ⟨by rw [h.1]; congr 2; omega, h.2.symm⟩

/-- where a digit of the quotient stands: it is q or less -/
def Dig (u d y1 y0 q r : Int) : Prop := q * y1 + r = u ∧ 0 ≤ r ∧ r < 4294967296 ∧ 0 ≤ q ∧ 4294967296 * u + d < q * y1 * 4294967296 + q * y0 + (y1 * 4294967296 + y0)
/-- it is q -/
def DigIs (u d y1 y0 q : Int) : Prop := 0 ≤ q ∧ q < 4294967296 ∧ q * y1 * 4294967296 + q * y0 ≤ 4294967296 * u + d ∧ 4294967296 * u + d < q * y1 * 4294967296 + q * y0 + (y1 * 4294967296 + y0)
theorem DigIs.rest {u d y1 y0 q Y : Int} (h : DigIs u d y1 y0 q) (hY : Y = y1 * 4294967296 + y0) : ∃ v, v = u * 4294967296 + d - q * Y ∧ 0 ≤ v ∧ v < Y ∧ u * 4294967296 + d = q * Y + v := by
  obtain ⟨_, _, h1, h2⟩ := h
  subst hY
  have e : q * (y1 * 4294967296 + y0) = q * y1 * 4294967296 + q * y0 := by rw [Int.mul_add, Int.mul_assoc]
  exact ⟨_, rfl, by omega, by omega, by omega⟩

theorem div_setup (hn ln yn : Nat) (h0 : 0 < hn) (hl : ln < 18446744073709551616) (hy : hn < yn) (hy2 : yn < 18446744073709551616) : ∃ (s t : Nat) (P T Y H L M U y1 y0 m1 m0 : Int),
    s + Lib.bitLen yn = 64 ∧ s ≤ 63 ∧ 64 - (s : Int) = (t : Int) ∧ t ≤ 64 ∧ (2 : Int) ^ s = P ∧ (2 : Int) ^ t = T ∧ 1 ≤ P ∧ 1 ≤ T ∧ (yn : Int) * P = Y ∧ (hn : Int) * P = H ∧ (ln : Int) / T = L ∧ IntKind.u64.wrap ((ln : Int) * P) = M ∧
    bits .or .u64 H L = U ∧ Y / 4294967296 = y1 ∧ bits .and .u64 Y 4294967295 = y0 ∧ M / 4294967296 = m1 ∧ bits .and .u64 M 4294967295 = m0 ∧
    (9223372036854775808 ≤ Y ∧ Y < 18446744073709551616 ∧ Y = y1 * 4294967296 + y0) ∧ (2147483648 ≤ y1 ∧ y1 < 4294967296) ∧ (0 ≤ y0 ∧ y0 < 4294967296) ∧ (0 ≤ H ∧ H < 18446744073709551616) ∧ (0 ≤ L ∧ L < 18446744073709551616) ∧ (0 ≤ M ∧ M < 18446744073709551616) ∧ (0 ≤ U ∧ U < Y) ∧ (0 ≤ m1 ∧ m1 < 4294967296) ∧ (0 ≤ m0 ∧ m0 < 4294967296) ∧
    ((hn : Int) * 18446744073709551616 + (ln : Int)) * P = U * 18446744073709551616 + M ∧ m1 = M / 4294967296 ∧ m0 = M % 4294967296 := by
  obtain ⟨s, hs, hs63, hbl, hY1, hY2⟩ := norm_facts (y := yn) (by omega) hy2
  obtain ⟨t, ht⟩ : ∃ t, 64 - s = t := ⟨_, rfl⟩
  have hor := high_or (hi := hn) (lo := ln) (s := s) hs63 hl
  have hwhole := shift_whole (hi := hn) (lo := ln) (s := s) hs63
  have hlt := high_lt (hi := hn) (lo := ln) (s := s) hs63 hy hl
  rw [ht] at hor hwhole hlt
  have hp : 1 ≤ 2 ^ s := Nat.one_le_two_pow
  have hq : 1 ≤ 2 ^ t := Nat.one_le_two_pow
  have hpI : (2 : Int) ^ s = ((2 ^ s : Nat) : Int) := by simp
  have hqI : (2 : Int) ^ t = ((2 ^ t : Nat) : Int) := by simp
  generalize (2 : Nat) ^ s = p at *
  generalize (2 : Nat) ^ t = q at *
  obtain ⟨Lq, hLq⟩ : ∃ x, ln / q = x := ⟨_, rfl⟩
  obtain ⟨Yn, hYn⟩ : ∃ x, yn * p = x := ⟨_, rfl⟩
  obtain ⟨Hn, hHn⟩ : ∃ x, hn * p = x := ⟨_, rfl⟩
  obtain ⟨Mn, hMn⟩ : ∃ x, ln * p = x := ⟨_, rfl⟩
  rw [hLq, hHn] at hor hlt hwhole
  rw [hYn] at hY1 hY2 hlt
  rw [hMn] at hwhole
  refine ⟨s, t, p, q, (Yn : Nat), (Hn : Nat), (Lq : Nat), (Mn % 18446744073709551616 : Nat), (Hn + Lq : Nat), (Yn / 4294967296 : Nat), (Yn % 4294967296 : Nat), (Mn % 18446744073709551616 / 4294967296 : Nat), (Mn % 18446744073709551616 % 4294967296 : Nat),
    by omega, hs63, by omega, by omega, hpI, hqI, by omega, by omega, by rw [← hYn]; simp, by rw [← hHn]; simp, by rw [← hLq]; simp, ?_, ?_, by simp, ?_, by simp, ?_, ?_, ?_, ?_, ?_, ?_, ?_, ?_, ?_, ?_, ?_, by simp, by simp⟩
  · rw [IntKind.wrap_u64, ← Int.natCast_mul, hMn]; omega
  · rw [bits_or_u64_nat _ _ (by omega) (by omega), hor.1]
  · have := bits_and_u64_nat Yn 4294967295 (by omega) (by omega)
    have e : Yn &&& 4294967295 = Yn % 4294967296 := Nat.and_two_pow_sub_one_eq_mod _ 32
    rw [e] at this; exact this
  · have := bits_and_u64_nat (Mn % 18446744073709551616) 4294967295 (by omega) (by omega)
    have e : Mn % 18446744073709551616 &&& 4294967295 = Mn % 18446744073709551616 % 4294967296 := Nat.and_two_pow_sub_one_eq_mod _ 32
    rw [e] at this; exact this
  · refine ⟨by omega, by omega, by omega⟩
  · omega
  · omega
  · omega
  · omega
  · omega
  · omega
  · omega
  · omega
  · have := congrArg (Int.ofNat) hwhole
    simpa using this

theorem div_setupI (hi lo y : Int) (h0 : 0 < hi) (hl : 0 ≤ lo ∧ lo < 18446744073709551616) (hy : hi < y) (hy2 : y < 18446744073709551616) : ∃ (s t : Nat) (P T Y H L M U y1 y0 m1 m0 : Int),
    s + Lib.bitLen y.toNat = 64 ∧ s ≤ 63 ∧ 64 - (s : Int) = (t : Int) ∧ t ≤ 64 ∧ (2 : Int) ^ s = P ∧ (2 : Int) ^ t = T ∧ 1 ≤ P ∧ 1 ≤ T ∧ y * P = Y ∧ hi * P = H ∧ lo / T = L ∧ IntKind.u64.wrap (lo * P) = M ∧
    bits .or .u64 H L = U ∧ Y / 4294967296 = y1 ∧ bits .and .u64 Y 4294967295 = y0 ∧ M / 4294967296 = m1 ∧ bits .and .u64 M 4294967295 = m0 ∧
    (9223372036854775808 ≤ Y ∧ Y < 18446744073709551616 ∧ Y = y1 * 4294967296 + y0) ∧ (2147483648 ≤ y1 ∧ y1 < 4294967296) ∧ (0 ≤ y0 ∧ y0 < 4294967296) ∧ (0 ≤ H ∧ H < 18446744073709551616) ∧ (0 ≤ L ∧ L < 18446744073709551616) ∧ (0 ≤ M ∧ M < 18446744073709551616) ∧ (0 ≤ U ∧ U < Y) ∧ (0 ≤ m1 ∧ m1 < 4294967296) ∧ (0 ≤ m0 ∧ m0 < 4294967296) ∧
    (hi * 18446744073709551616 + lo) * P = U * 18446744073709551616 + M ∧ m1 = M / 4294967296 ∧ m0 = M % 4294967296 := by
  obtain ⟨yn, rfl⟩ := Int.eq_ofNat_of_zero_le (show 0 ≤ y by omega)
  obtain ⟨hn, rfl⟩ := Int.eq_ofNat_of_zero_le (show 0 ≤ hi by omega)
  obtain ⟨ln, rfl⟩ := Int.eq_ofNat_of_zero_le hl.1
  rw [Int.toNat_natCast]
  exact div_setup hn ln yn (by omega) (by omega) (by omega) (by omega)


set_option maxHeartbeats 4000000 in
set_option maxRecDepth 200000 in
theorem Div64_at (hi lo y : Int) (w : World) (h0 : 0 ≤ hi) (hlo : 0 ≤ lo ∧ lo < 18446744073709551616) (hy : hi < y) (hy2 : y < 18446744073709551616) :
    Calls Tryz.prog 134 #[.int .u64 hi, .int .u64 lo, .int .u64 y] w fun e w' => e = .returned (.tuple #[.int .u64 ((hi * 18446744073709551616 + lo) / y), .int .u64 ((hi * 18446744073709551616 + lo) % y)]) ∧ Below w.heap.size w w' := by
  obtain ⟨l0, l1⟩ := hlo
  have hyz : ¬ y = 0 := by omega
  by_cases hz : hi = 0
  · subst hz
    have Q := Lib.hid (show (0 : Int) * 18446744073709551616 + lo = lo by omega)
    go_enter Tryz.func134, Tryz.ntmps134
    go_wp2
    refine wp_region_past (by kernel_rfl) (by kernel_rfl) ?_
    repeat (go_big_quiet_step (fail))
    refine wpQuiet_nil ?_
    rintro _ ⟨y, rfl⟩
    go_wp2
    go_ret2
    rw [Q.out]
    exact ⟨rfl, y.2⟩
  obtain ⟨s, t, P, T, Y, H, L, M, U, y1, y0, m1, m0, hs, hs63, ht, ht64, hP2, hT2, hP, hT, hYp, hHp, hLT, hM, hU, hY1, hY0, hm1, hm0, ⟨Ya, Yb, hYY⟩, ⟨y1a, y1b⟩, ⟨y0a, y0b⟩, ⟨Ha, Hb⟩, ⟨La, Lb⟩, ⟨Ma, Mb⟩, ⟨Ua, Ub⟩, ⟨m1a, m1b⟩, ⟨m0a, m0b⟩, hN, hM1, hM0⟩ := div_setupI hi lo y (by omega) (by omega) (by omega) (by omega)
  have HS := Lib.hid hs; clear hs
  have HYY := Lib.hid hYY; clear hYY
  have HN := Lib.hid hN; clear hN
  have HM1 := Lib.hid hM1.symm; clear hM1
  have HM0 := Lib.hid hM0.symm; clear hM0
  have HYp := Lib.hid hYp
  have hUY : U < y1 * 4294967296 + y0 := by have := HYY.out; omega
  have hvY : ∀ v : Int, v < Y → v < y1 * 4294967296 + y0 := fun v h => by have := HYY.out; omega
  have HvY := Lib.hid hvY; clear hvY
  go_enter Tryz.func134, Tryz.ntmps134

  have HF1 := Lib.hid (digit_first (u := U) (d := m1) (y1 := y1) (y0 := y0) (by omega) (by omega) (by omega) (by omega))
  have hf := HF1.out; obtain ⟨_, f1, f2, f3, _⟩ := hf
  have hyz1 : ¬ y1 = 0 := by omega
  have fle : U / y1 * y1 ≤ U := by omega
  have fge : 0 ≤ U / y1 * y1 := Int.mul_nonneg f3 (by omega)
  have fq : U / y1 ≤ U := Int.ediv_le_self _ (by omega)
  go_wp2_with (first | (go_at_call 153; refine (LeadingZeros64_at _ s _ (by omega) (by omega) HS.out).mono ?_; rintro e w' ⟨rfl, rfl⟩))
  go_loop [15, 16] (fun a b => ∃ q r : Int, a = .int .u64 q ∧ b = .int .u64 r ∧ Dig U m1 y1 y0 q r) (fun _ b => (4294967296 - intOf b).toNat)
  case atStart => exact ⟨_, _, rfl, rfl, HF1.out.1, HF1.out.2.1, by omega, f3, HF1.out.2.2.2.2⟩
  case round =>
    clear f1 f2 f3 fle fge fq
    obtain ⟨q, r, rfl, rfl, hdig⟩ := hrel
    have HG := Lib.hid hdig
    obtain ⟨_, r1, r2, q1', _⟩ := hdig
    have hqy : 0 ≤ q * y0 := Int.mul_nonneg q1' (by omega)
    have hqU : q ≤ U := by have e9 := Int.mul_le_mul_of_nonneg_left (show 1 ≤ y1 by omega) q1'; rw [Int.mul_one] at e9; have e8 := HG.out.1; omega
    by_cases hq : 4294967296 ≤ q
    · have HGR := Lib.hid (digit_great (d := m1) (y0 := y0) HG.out.1 (.inl hq) (by omega) ⟨by omega, by omega⟩ (by omega) (by omega))
      have hqp : 1 ≤ q := digit_pos HGR.out (by omega) (by omega) (by omega) (by omega)
      have HDN := Lib.hid (digit_down HG.out.1)
      have HNX := Lib.hid (digit_next HGR.out)
      by_cases hbr : 4294967296 ≤ r + y1
      · have HBK := Lib.hid (digit_break (d := m1) (y0 := y0) HDN.out hbr (by omega) (by omega) (by omega) (by omega))
        have HD1 := Lib.hid (show DigIs U m1 y1 y0 (q - 1) from ⟨by omega, digit_lt HBK.out (by omega) (by omega) (by omega) (by omega), HBK.out, HNX.out⟩)
        obtain ⟨q1, hq1⟩ : ∃ q1, q - 1 = q1 := ⟨_, rfl⟩
        rw [hq1] at HD1
        have hd1 := HD1.out; obtain ⟨q1a, q1b, _, _⟩ := hd1
        obtain ⟨v, hv0, hv1, hv2, hv3⟩ := HD1.out.rest HYY.out
        have ev : IntKind.u64.wrap (IntKind.u64.wrap (IntKind.u64.wrap (U * 4294967296) + m1) - IntKind.u64.wrap (q1 * Y)) = v := wrap_rest hv0 (by omega)
        have HV := Lib.hid hv3; clear hv0 hv3
        have hvy1 := HvY.out v hv2
        have HF0 := Lib.hid (digit_first (u := v) (d := m0) (y1 := y1) (y0 := y0) (by omega) (by omega) (by omega) (by omega))
        have hf := HF0.out; obtain ⟨_, f1, f2, f3, _⟩ := hf
        have hyz1 : ¬ y1 = 0 := by omega
        have fle : v / y1 * y1 ≤ v := by omega
        have fge : 0 ≤ v / y1 * y1 := Int.mul_nonneg f3 (by omega)
        have fq : v / y1 ≤ v := Int.ediv_le_self _ (by omega)
        go_wp2
        go_loop [18, 16] (fun a b => ∃ q r : Int, a = .int .u64 q ∧ b = .int .u64 r ∧ Dig v m0 y1 y0 q r) (fun _ b => (4294967296 - intOf b).toNat)
        case atStart => exact ⟨_, _, rfl, rfl, HF0.out.1, HF0.out.2.1, by omega, f3, HF0.out.2.2.2.2⟩
        case round =>
          clear f1 f2 f3 fle fge fq
          obtain ⟨q, r, rfl, rfl, hdig⟩ := hrel
          have HG := Lib.hid hdig
          obtain ⟨_, r1, r2, q1', _⟩ := hdig
          have hqy : 0 ≤ q * y0 := Int.mul_nonneg q1' (by omega)
          have hqU : q ≤ v := by have e9 := Int.mul_le_mul_of_nonneg_left (show 1 ≤ y1 by omega) q1'; rw [Int.mul_one] at e9; have e8 := HG.out.1; omega
          by_cases hq : 4294967296 ≤ q
          · have HGR := Lib.hid (digit_great (d := m0) (y0 := y0) HG.out.1 (.inl hq) (by omega) ⟨by omega, by omega⟩ (by omega) (by omega))
            have hqp : 1 ≤ q := digit_pos HGR.out (by omega) (by omega) (by omega) (by omega)
            have HDN := Lib.hid (digit_down HG.out.1)
            have HNX := Lib.hid (digit_next HGR.out)
            by_cases hbr : 4294967296 ≤ r + y1
            · have HBK := Lib.hid (digit_break (d := m0) (y0 := y0) HDN.out hbr (by omega) (by omega) (by omega) (by omega))
              have HD0 := Lib.hid (show DigIs v m0 y1 y0 (q - 1) from ⟨by omega, digit_lt HBK.out (by omega) (by omega) (by omega) (by omega), HBK.out, HNX.out⟩)
              obtain ⟨q0, hq0⟩ : ∃ q0, q - 1 = q0 := ⟨_, rfl⟩
              rw [hq0] at HD0
              have hd0 := HD0.out; obtain ⟨q0a, q0b, _, _⟩ := hd0
              obtain ⟨r0, hr0, hr1, hr2, hr3⟩ := HD0.out.rest HYY.out
              have HE0 := Lib.hid (div_whole (n := hi * 18446744073709551616 + lo) (y := y) (p := P) (u := U) (m := M) (q1 := q1) (q0 := q0) (v := v) (r := r0) hP HN.out (by rw [HYp.out, HM1.out]; exact HV.out) (by rw [HYp.out, HM0.out]; exact hr3) (by rw [HYp.out]; exact ⟨hr1, hr2⟩) (by omega))
              have ew : IntKind.u64.wrap (IntKind.u64.wrap (IntKind.u64.wrap (v * 4294967296) + m0) - IntKind.u64.wrap (q0 * Y)) = r0 := wrap_rest hr0 (by omega)
              clear hr0 hr3
              go_wp2
              go_ret2
              rw [← HE0.out.1, ← HE0.out.2]
              exact ⟨rfl, Below.refl _ _⟩
            · go_wp2
              go_round
              case rel => exact ⟨_, _, rfl, rfl, HDN.out, by omega, by omega, by omega, HNX.out⟩
              case measure => simp [intOf]; omega
          have hqy2 : q * y0 ≤ 4294967295 * 4294967295 := Int.mul_le_mul (by omega) (by omega) (by omega) (by omega)
          by_cases hc : 4294967296 * r + m0 < q * y0
          · have HGR := Lib.hid (digit_great (d := m0) (y0 := y0) HG.out.1 (.inr hc) (by omega) ⟨by omega, by omega⟩ (by omega) (by omega))
            have hqp : 1 ≤ q := digit_pos HGR.out (by omega) (by omega) (by omega) (by omega)
            have HDN := Lib.hid (digit_down HG.out.1)
            have HNX := Lib.hid (digit_next HGR.out)
            by_cases hbr : 4294967296 ≤ r + y1
            · have HBK := Lib.hid (digit_break (d := m0) (y0 := y0) HDN.out hbr (by omega) (by omega) (by omega) (by omega))
              have HD0 := Lib.hid (show DigIs v m0 y1 y0 (q - 1) from ⟨by omega, digit_lt HBK.out (by omega) (by omega) (by omega) (by omega), HBK.out, HNX.out⟩)
              obtain ⟨q0, hq0⟩ : ∃ q0, q - 1 = q0 := ⟨_, rfl⟩
              rw [hq0] at HD0
              have hd0 := HD0.out; obtain ⟨q0a, q0b, _, _⟩ := hd0
              obtain ⟨r0, hr0, hr1, hr2, hr3⟩ := HD0.out.rest HYY.out
              have HE0 := Lib.hid (div_whole (n := hi * 18446744073709551616 + lo) (y := y) (p := P) (u := U) (m := M) (q1 := q1) (q0 := q0) (v := v) (r := r0) hP HN.out (by rw [HYp.out, HM1.out]; exact HV.out) (by rw [HYp.out, HM0.out]; exact hr3) (by rw [HYp.out]; exact ⟨hr1, hr2⟩) (by omega))
              have ew : IntKind.u64.wrap (IntKind.u64.wrap (IntKind.u64.wrap (v * 4294967296) + m0) - IntKind.u64.wrap (q0 * Y)) = r0 := wrap_rest hr0 (by omega)
              clear hr0 hr3
              go_wp2
              go_ret2
              rw [← HE0.out.1, ← HE0.out.2]
              exact ⟨rfl, Below.refl _ _⟩
            · go_wp2
              go_round
              case rel => exact ⟨_, _, rfl, rfl, HDN.out, by omega, by omega, by omega, HNX.out⟩
              case measure => simp [intOf]; omega
          have HFT := Lib.hid (digit_fit (d := m0) (y0 := y0) HG.out.1 hc)
          have HD0 := Lib.hid (show DigIs v m0 y1 y0 q from ⟨q1', by omega, HFT.out, HG.out.2.2.2.2⟩)
          obtain ⟨q0, rfl⟩ : ∃ q0, q0 = q := ⟨_, rfl⟩
          have hd0 := HD0.out; obtain ⟨q0a, q0b, _, _⟩ := hd0
          obtain ⟨r0, hr0, hr1, hr2, hr3⟩ := HD0.out.rest HYY.out
          have HE0 := Lib.hid (div_whole (n := hi * 18446744073709551616 + lo) (y := y) (p := P) (u := U) (m := M) (q1 := q1) (q0 := q0) (v := v) (r := r0) hP HN.out (by rw [HYp.out, HM1.out]; exact HV.out) (by rw [HYp.out, HM0.out]; exact hr3) (by rw [HYp.out]; exact ⟨hr1, hr2⟩) (by omega))
          have ew : IntKind.u64.wrap (IntKind.u64.wrap (IntKind.u64.wrap (v * 4294967296) + m0) - IntKind.u64.wrap (q0 * Y)) = r0 := wrap_rest hr0 (by omega)
          clear hr0 hr3
          go_wp2
          go_ret2
          rw [← HE0.out.1, ← HE0.out.2]
          exact ⟨rfl, Below.refl _ _⟩
      · go_wp2
        go_round
        case rel => exact ⟨_, _, rfl, rfl, HDN.out, by omega, by omega, by omega, HNX.out⟩
        case measure => simp [intOf]; omega
    have hqy2 : q * y0 ≤ 4294967295 * 4294967295 := Int.mul_le_mul (by omega) (by omega) (by omega) (by omega)
    by_cases hc : 4294967296 * r + m1 < q * y0
    · have HGR := Lib.hid (digit_great (d := m1) (y0 := y0) HG.out.1 (.inr hc) (by omega) ⟨by omega, by omega⟩ (by omega) (by omega))
      have hqp : 1 ≤ q := digit_pos HGR.out (by omega) (by omega) (by omega) (by omega)
      have HDN := Lib.hid (digit_down HG.out.1)
      have HNX := Lib.hid (digit_next HGR.out)
      by_cases hbr : 4294967296 ≤ r + y1
      · have HBK := Lib.hid (digit_break (d := m1) (y0 := y0) HDN.out hbr (by omega) (by omega) (by omega) (by omega))
        have HD1 := Lib.hid (show DigIs U m1 y1 y0 (q - 1) from ⟨by omega, digit_lt HBK.out (by omega) (by omega) (by omega) (by omega), HBK.out, HNX.out⟩)
        obtain ⟨q1, hq1⟩ : ∃ q1, q - 1 = q1 := ⟨_, rfl⟩
        rw [hq1] at HD1
        have hd1 := HD1.out; obtain ⟨q1a, q1b, _, _⟩ := hd1
        obtain ⟨v, hv0, hv1, hv2, hv3⟩ := HD1.out.rest HYY.out
        have ev : IntKind.u64.wrap (IntKind.u64.wrap (IntKind.u64.wrap (U * 4294967296) + m1) - IntKind.u64.wrap (q1 * Y)) = v := wrap_rest hv0 (by omega)
        have HV := Lib.hid hv3; clear hv0 hv3
        have hvy1 := HvY.out v hv2
        have HF0 := Lib.hid (digit_first (u := v) (d := m0) (y1 := y1) (y0 := y0) (by omega) (by omega) (by omega) (by omega))
        have hf := HF0.out; obtain ⟨_, f1, f2, f3, _⟩ := hf
        have hyz1 : ¬ y1 = 0 := by omega
        have fle : v / y1 * y1 ≤ v := by omega
        have fge : 0 ≤ v / y1 * y1 := Int.mul_nonneg f3 (by omega)
        have fq : v / y1 ≤ v := Int.ediv_le_self _ (by omega)
        go_wp2
        go_loop [18, 16] (fun a b => ∃ q r : Int, a = .int .u64 q ∧ b = .int .u64 r ∧ Dig v m0 y1 y0 q r) (fun _ b => (4294967296 - intOf b).toNat)
        case atStart => exact ⟨_, _, rfl, rfl, HF0.out.1, HF0.out.2.1, by omega, f3, HF0.out.2.2.2.2⟩
        case round =>
          clear f1 f2 f3 fle fge fq
          obtain ⟨q, r, rfl, rfl, hdig⟩ := hrel
          have HG := Lib.hid hdig
          obtain ⟨_, r1, r2, q1', _⟩ := hdig
          have hqy : 0 ≤ q * y0 := Int.mul_nonneg q1' (by omega)
          have hqU : q ≤ v := by have e9 := Int.mul_le_mul_of_nonneg_left (show 1 ≤ y1 by omega) q1'; rw [Int.mul_one] at e9; have e8 := HG.out.1; omega
          by_cases hq : 4294967296 ≤ q
          · have HGR := Lib.hid (digit_great (d := m0) (y0 := y0) HG.out.1 (.inl hq) (by omega) ⟨by omega, by omega⟩ (by omega) (by omega))
            have hqp : 1 ≤ q := digit_pos HGR.out (by omega) (by omega) (by omega) (by omega)
            have HDN := Lib.hid (digit_down HG.out.1)
            have HNX := Lib.hid (digit_next HGR.out)
            by_cases hbr : 4294967296 ≤ r + y1
            · have HBK := Lib.hid (digit_break (d := m0) (y0 := y0) HDN.out hbr (by omega) (by omega) (by omega) (by omega))
              have HD0 := Lib.hid (show DigIs v m0 y1 y0 (q - 1) from ⟨by omega, digit_lt HBK.out (by omega) (by omega) (by omega) (by omega), HBK.out, HNX.out⟩)
              obtain ⟨q0, hq0⟩ : ∃ q0, q - 1 = q0 := ⟨_, rfl⟩
              rw [hq0] at HD0
              have hd0 := HD0.out; obtain ⟨q0a, q0b, _, _⟩ := hd0
              obtain ⟨r0, hr0, hr1, hr2, hr3⟩ := HD0.out.rest HYY.out
              have HE0 := Lib.hid (div_whole (n := hi * 18446744073709551616 + lo) (y := y) (p := P) (u := U) (m := M) (q1 := q1) (q0 := q0) (v := v) (r := r0) hP HN.out (by rw [HYp.out, HM1.out]; exact HV.out) (by rw [HYp.out, HM0.out]; exact hr3) (by rw [HYp.out]; exact ⟨hr1, hr2⟩) (by omega))
              have ew : IntKind.u64.wrap (IntKind.u64.wrap (IntKind.u64.wrap (v * 4294967296) + m0) - IntKind.u64.wrap (q0 * Y)) = r0 := wrap_rest hr0 (by omega)
              clear hr0 hr3
              go_wp2
              go_ret2
              rw [← HE0.out.1, ← HE0.out.2]
              exact ⟨rfl, Below.refl _ _⟩
            · go_wp2
              go_round
              case rel => exact ⟨_, _, rfl, rfl, HDN.out, by omega, by omega, by omega, HNX.out⟩
              case measure => simp [intOf]; omega
          have hqy2 : q * y0 ≤ 4294967295 * 4294967295 := Int.mul_le_mul (by omega) (by omega) (by omega) (by omega)
          by_cases hc : 4294967296 * r + m0 < q * y0
          · have HGR := Lib.hid (digit_great (d := m0) (y0 := y0) HG.out.1 (.inr hc) (by omega) ⟨by omega, by omega⟩ (by omega) (by omega))
            have hqp : 1 ≤ q := digit_pos HGR.out (by omega) (by omega) (by omega) (by omega)
            have HDN := Lib.hid (digit_down HG.out.1)
            have HNX := Lib.hid (digit_next HGR.out)
            by_cases hbr : 4294967296 ≤ r + y1
            · have HBK := Lib.hid (digit_break (d := m0) (y0 := y0) HDN.out hbr (by omega) (by omega) (by omega) (by omega))
              have HD0 := Lib.hid (show DigIs v m0 y1 y0 (q - 1) from ⟨by omega, digit_lt HBK.out (by omega) (by omega) (by omega) (by omega), HBK.out, HNX.out⟩)
              obtain ⟨q0, hq0⟩ : ∃ q0, q - 1 = q0 := ⟨_, rfl⟩
              rw [hq0] at HD0
              have hd0 := HD0.out; obtain ⟨q0a, q0b, _, _⟩ := hd0
              obtain ⟨r0, hr0, hr1, hr2, hr3⟩ := HD0.out.rest HYY.out
              have HE0 := Lib.hid (div_whole (n := hi * 18446744073709551616 + lo) (y := y) (p := P) (u := U) (m := M) (q1 := q1) (q0 := q0) (v := v) (r := r0) hP HN.out (by rw [HYp.out, HM1.out]; exact HV.out) (by rw [HYp.out, HM0.out]; exact hr3) (by rw [HYp.out]; exact ⟨hr1, hr2⟩) (by omega))
              have ew : IntKind.u64.wrap (IntKind.u64.wrap (IntKind.u64.wrap (v * 4294967296) + m0) - IntKind.u64.wrap (q0 * Y)) = r0 := wrap_rest hr0 (by omega)
              clear hr0 hr3
              go_wp2
              go_ret2
              rw [← HE0.out.1, ← HE0.out.2]
              exact ⟨rfl, Below.refl _ _⟩
            · go_wp2
              go_round
              case rel => exact ⟨_, _, rfl, rfl, HDN.out, by omega, by omega, by omega, HNX.out⟩
              case measure => simp [intOf]; omega
          have HFT := Lib.hid (digit_fit (d := m0) (y0 := y0) HG.out.1 hc)
          have HD0 := Lib.hid (show DigIs v m0 y1 y0 q from ⟨q1', by omega, HFT.out, HG.out.2.2.2.2⟩)
          obtain ⟨q0, rfl⟩ : ∃ q0, q0 = q := ⟨_, rfl⟩
          have hd0 := HD0.out; obtain ⟨q0a, q0b, _, _⟩ := hd0
          obtain ⟨r0, hr0, hr1, hr2, hr3⟩ := HD0.out.rest HYY.out
          have HE0 := Lib.hid (div_whole (n := hi * 18446744073709551616 + lo) (y := y) (p := P) (u := U) (m := M) (q1 := q1) (q0 := q0) (v := v) (r := r0) hP HN.out (by rw [HYp.out, HM1.out]; exact HV.out) (by rw [HYp.out, HM0.out]; exact hr3) (by rw [HYp.out]; exact ⟨hr1, hr2⟩) (by omega))
          have ew : IntKind.u64.wrap (IntKind.u64.wrap (IntKind.u64.wrap (v * 4294967296) + m0) - IntKind.u64.wrap (q0 * Y)) = r0 := wrap_rest hr0 (by omega)
          clear hr0 hr3
          go_wp2
          go_ret2
          rw [← HE0.out.1, ← HE0.out.2]
          exact ⟨rfl, Below.refl _ _⟩
      · go_wp2
        go_round
        case rel => exact ⟨_, _, rfl, rfl, HDN.out, by omega, by omega, by omega, HNX.out⟩
        case measure => simp [intOf]; omega
    have HFT := Lib.hid (digit_fit (d := m1) (y0 := y0) HG.out.1 hc)
    have HD1 := Lib.hid (show DigIs U m1 y1 y0 q from ⟨q1', by omega, HFT.out, HG.out.2.2.2.2⟩)
    obtain ⟨q1, rfl⟩ : ∃ q1, q1 = q := ⟨_, rfl⟩
    have hd1 := HD1.out; obtain ⟨q1a, q1b, _, _⟩ := hd1
    obtain ⟨v, hv0, hv1, hv2, hv3⟩ := HD1.out.rest HYY.out
    have ev : IntKind.u64.wrap (IntKind.u64.wrap (IntKind.u64.wrap (U * 4294967296) + m1) - IntKind.u64.wrap (q1 * Y)) = v := wrap_rest hv0 (by omega)
    have HV := Lib.hid hv3; clear hv0 hv3
    have hvy1 := HvY.out v hv2
    have HF0 := Lib.hid (digit_first (u := v) (d := m0) (y1 := y1) (y0 := y0) (by omega) (by omega) (by omega) (by omega))
    have hf := HF0.out; obtain ⟨_, f1, f2, f3, _⟩ := hf
    have hyz1 : ¬ y1 = 0 := by omega
    have fle : v / y1 * y1 ≤ v := by omega
    have fge : 0 ≤ v / y1 * y1 := Int.mul_nonneg f3 (by omega)
    have fq : v / y1 ≤ v := Int.ediv_le_self _ (by omega)
    go_wp2
    go_loop [18, 16] (fun a b => ∃ q r : Int, a = .int .u64 q ∧ b = .int .u64 r ∧ Dig v m0 y1 y0 q r) (fun _ b => (4294967296 - intOf b).toNat)
    case atStart => exact ⟨_, _, rfl, rfl, HF0.out.1, HF0.out.2.1, by omega, f3, HF0.out.2.2.2.2⟩
    case round =>
      clear f1 f2 f3 fle fge fq
      obtain ⟨q, r, rfl, rfl, hdig⟩ := hrel
      have HG := Lib.hid hdig
      obtain ⟨_, r1, r2, q1', _⟩ := hdig
      have hqy : 0 ≤ q * y0 := Int.mul_nonneg q1' (by omega)
      have hqU : q ≤ v := by have e9 := Int.mul_le_mul_of_nonneg_left (show 1 ≤ y1 by omega) q1'; rw [Int.mul_one] at e9; have e8 := HG.out.1; omega
      by_cases hq : 4294967296 ≤ q
      · have HGR := Lib.hid (digit_great (d := m0) (y0 := y0) HG.out.1 (.inl hq) (by omega) ⟨by omega, by omega⟩ (by omega) (by omega))
        have hqp : 1 ≤ q := digit_pos HGR.out (by omega) (by omega) (by omega) (by omega)
        have HDN := Lib.hid (digit_down HG.out.1)
        have HNX := Lib.hid (digit_next HGR.out)
        by_cases hbr : 4294967296 ≤ r + y1
        · have HBK := Lib.hid (digit_break (d := m0) (y0 := y0) HDN.out hbr (by omega) (by omega) (by omega) (by omega))
          have HD0 := Lib.hid (show DigIs v m0 y1 y0 (q - 1) from ⟨by omega, digit_lt HBK.out (by omega) (by omega) (by omega) (by omega), HBK.out, HNX.out⟩)
          obtain ⟨q0, hq0⟩ : ∃ q0, q - 1 = q0 := ⟨_, rfl⟩
          rw [hq0] at HD0
          have hd0 := HD0.out; obtain ⟨q0a, q0b, _, _⟩ := hd0
          obtain ⟨r0, hr0, hr1, hr2, hr3⟩ := HD0.out.rest HYY.out
          have HE0 := Lib.hid (div_whole (n := hi * 18446744073709551616 + lo) (y := y) (p := P) (u := U) (m := M) (q1 := q1) (q0 := q0) (v := v) (r := r0) hP HN.out (by rw [HYp.out, HM1.out]; exact HV.out) (by rw [HYp.out, HM0.out]; exact hr3) (by rw [HYp.out]; exact ⟨hr1, hr2⟩) (by omega))
          have ew : IntKind.u64.wrap (IntKind.u64.wrap (IntKind.u64.wrap (v * 4294967296) + m0) - IntKind.u64.wrap (q0 * Y)) = r0 := wrap_rest hr0 (by omega)
          clear hr0 hr3
          go_wp2
          go_ret2
          rw [← HE0.out.1, ← HE0.out.2]
          exact ⟨rfl, Below.refl _ _⟩
        · go_wp2
          go_round
          case rel => exact ⟨_, _, rfl, rfl, HDN.out, by omega, by omega, by omega, HNX.out⟩
          case measure => simp [intOf]; omega
      have hqy2 : q * y0 ≤ 4294967295 * 4294967295 := Int.mul_le_mul (by omega) (by omega) (by omega) (by omega)
      by_cases hc : 4294967296 * r + m0 < q * y0
      · have HGR := Lib.hid (digit_great (d := m0) (y0 := y0) HG.out.1 (.inr hc) (by omega) ⟨by omega, by omega⟩ (by omega) (by omega))
        have hqp : 1 ≤ q := digit_pos HGR.out (by omega) (by omega) (by omega) (by omega)
        have HDN := Lib.hid (digit_down HG.out.1)
        have HNX := Lib.hid (digit_next HGR.out)
        by_cases hbr : 4294967296 ≤ r + y1
        · have HBK := Lib.hid (digit_break (d := m0) (y0 := y0) HDN.out hbr (by omega) (by omega) (by omega) (by omega))
          have HD0 := Lib.hid (show DigIs v m0 y1 y0 (q - 1) from ⟨by omega, digit_lt HBK.out (by omega) (by omega) (by omega) (by omega), HBK.out, HNX.out⟩)
          obtain ⟨q0, hq0⟩ : ∃ q0, q - 1 = q0 := ⟨_, rfl⟩
          rw [hq0] at HD0
          have hd0 := HD0.out; obtain ⟨q0a, q0b, _, _⟩ := hd0
          obtain ⟨r0, hr0, hr1, hr2, hr3⟩ := HD0.out.rest HYY.out
          have HE0 := Lib.hid (div_whole (n := hi * 18446744073709551616 + lo) (y := y) (p := P) (u := U) (m := M) (q1 := q1) (q0 := q0) (v := v) (r := r0) hP HN.out (by rw [HYp.out, HM1.out]; exact HV.out) (by rw [HYp.out, HM0.out]; exact hr3) (by rw [HYp.out]; exact ⟨hr1, hr2⟩) (by omega))
          have ew : IntKind.u64.wrap (IntKind.u64.wrap (IntKind.u64.wrap (v * 4294967296) + m0) - IntKind.u64.wrap (q0 * Y)) = r0 := wrap_rest hr0 (by omega)
          clear hr0 hr3
          go_wp2
          go_ret2
          rw [← HE0.out.1, ← HE0.out.2]
          exact ⟨rfl, Below.refl _ _⟩
        · go_wp2
          go_round
          case rel => exact ⟨_, _, rfl, rfl, HDN.out, by omega, by omega, by omega, HNX.out⟩
          case measure => simp [intOf]; omega
      have HFT := Lib.hid (digit_fit (d := m0) (y0 := y0) HG.out.1 hc)
      have HD0 := Lib.hid (show DigIs v m0 y1 y0 q from ⟨q1', by omega, HFT.out, HG.out.2.2.2.2⟩)
      obtain ⟨q0, rfl⟩ : ∃ q0, q0 = q := ⟨_, rfl⟩
      have hd0 := HD0.out; obtain ⟨q0a, q0b, _, _⟩ := hd0
      obtain ⟨r0, hr0, hr1, hr2, hr3⟩ := HD0.out.rest HYY.out
      have HE0 := Lib.hid (div_whole (n := hi * 18446744073709551616 + lo) (y := y) (p := P) (u := U) (m := M) (q1 := q1) (q0 := q0) (v := v) (r := r0) hP HN.out (by rw [HYp.out, HM1.out]; exact HV.out) (by rw [HYp.out, HM0.out]; exact hr3) (by rw [HYp.out]; exact ⟨hr1, hr2⟩) (by omega))
      have ew : IntKind.u64.wrap (IntKind.u64.wrap (IntKind.u64.wrap (v * 4294967296) + m0) - IntKind.u64.wrap (q0 * Y)) = r0 := wrap_rest hr0 (by omega)
      clear hr0 hr3
      go_wp2
      go_ret2
      rw [← HE0.out.1, ← HE0.out.2]
      exact ⟨rfl, Below.refl _ _⟩
end Go.Proofs.YtkdfdbcpbgganaaGreatDoor
end

/- A product divided by a number: the program's function (by the library's words) and the reference's (bit by bit). -/
section
namespace Go.Proofs.YtkdfdbcpbgganaaGreatDoor
open Go.RowKit Go.BigFrame

theorem Mul64_at (a b h l : Int) (w : World) (ha : 0 ≤ a ∧ a < 18446744073709551616) (hb : 0 ≤ b ∧ b < 18446744073709551616) (hh : a * b / 18446744073709551616 = h) (hl : a * b % 18446744073709551616 = l) :
    Calls Tryz.prog 133 #[.int .u64 a, .int .u64 b] w fun e w' => e = .returned (.tuple #[.int .u64 h, .int .u64 l]) ∧ w = w' := by
  obtain ⟨an, rfl⟩ := Int.eq_ofNat_of_zero_le ha.1
  obtain ⟨bn, rfl⟩ := Int.eq_ofNat_of_zero_le hb.1
  subst hh hl
  refine (Tryz.bits_Mul64 an bn (by omega) (by omega) w).mono ?_
  rintro e w' ⟨rfl, rfl⟩
  exact ⟨by simp, rfl⟩

/-- a * b / c, the remainder, and whether the quotient is 10^18 at most -/
def mdP (a b c : Int) : Int × Int × Bool := if a * b / c ≤ 1000000000000000000 then (a * b / c, a * b % c, true) else (0, 0, false)
theorem prod_parts {a b : Int} (ha : 0 ≤ a) (hb : 0 ≤ b) (ha2 : a ≤ 9223372036854775807) (hb2 : b ≤ 9223372036854775807) : 0 ≤ a * b ∧ a * b ≤ 9223372036854775807 * 9223372036854775807 :=
  ⟨Int.mul_nonneg ha hb, Int.mul_le_mul ha2 hb2 hb (by omega)⟩
theorem quo_great {x c : Int} (hc : 1 ≤ c) (h : c ≤ x / 18446744073709551616) : 1000000000000000000 < x / c := by
  have h1 : c * 18446744073709551616 ≤ x := by omega
  have h2 : 18446744073709551616 ≤ x / c := Int.le_ediv_of_mul_le (by omega) (by omega)
  omega

set_option maxHeartbeats 1000000 in
theorem impl_multiplyDivide_any (a b c : Int) (w : World) (ha : 0 ≤ a ∧ a ≤ 9223372036854775807) (hb : 0 ≤ b ∧ b ≤ 9223372036854775807) (hc : 1 ≤ c ∧ c ≤ 9223372036854775807) :
    Calls Tryz.prog 108 #[.int .i64 a, .int .i64 b, .int .i64 c] w fun e w' => e = .returned (.tuple #[.int .i64 (mdP a b c).1, .int .i64 (mdP a b c).2.1, .bool (mdP a b c).2.2]) ∧ Below w.heap.size w w' := by
  obtain ⟨a1, a2⟩ := ha
  obtain ⟨b1, b2⟩ := hb
  obtain ⟨c1, c2⟩ := hc
  obtain ⟨p1, p2⟩ := prod_parts a1 b1 a2 b2
  obtain ⟨x, hx⟩ : ∃ x, a * b = x := ⟨_, rfl⟩
  obtain ⟨h, hh⟩ : ∃ h, a * b / 18446744073709551616 = h := ⟨_, rfl⟩
  obtain ⟨l, hl⟩ : ∃ l, a * b % 18446744073709551616 = l := ⟨_, rfl⟩
  have HH := Lib.hid hh; have HL := Lib.hid hl
  have h1 : 0 ≤ h := by omega
  have h2 : h < 18446744073709551616 := by omega
  have l1 : 0 ≤ l := by omega
  have l2 : l < 18446744073709551616 := by omega
  have hs : h * 18446744073709551616 + l = a * b := by omega
  have HS := Lib.hid hs
  by_cases hge : c ≤ h
  · have Q := Lib.hid (show mdP a b c = (0, 0, false) by unfold mdP; rw [if_neg (by have := quo_great c1 (show c ≤ a * b / 18446744073709551616 by omega); omega)])
    clear hh hl hs hx
    go_enter Tryz.func108, Tryz.ntmps108
    go_wp2_with (first | (go_at_call 133; refine (Mul64_at a b h l _ ⟨by omega, by omega⟩ ⟨by omega, by omega⟩ HH.out HL.out).mono ?_; rintro e w' ⟨rfl, rfl⟩))
    go_ret3
    exact ⟨by rw [Q.out]; rfl, Below.refl _ _⟩
  obtain ⟨q, hq⟩ : ∃ q, a * b / c = q := ⟨_, rfl⟩
  obtain ⟨r, hr⟩ : ∃ r, a * b % c = r := ⟨_, rfl⟩
  have q1 : 0 ≤ q := by rw [← hq]; exact Int.ediv_nonneg p1 (by omega)
  have q2 : q < 18446744073709551616 := by
    rw [← hq]
    refine Int.ediv_lt_of_lt_mul (by omega) ?_
    have : (h + 1) * 18446744073709551616 ≤ c * 18446744073709551616 := by omega
    omega
  have r1 : 0 ≤ r := by rw [← hr]; exact Int.emod_nonneg _ (by omega)
  have r2 : r < c := by rw [← hr]; exact Int.emod_lt_of_pos _ (by omega)
  have HQ := Lib.hid hq; have HR := Lib.hid hr
  by_cases hg : 1000000000000000000 < q
  · have Q := Lib.hid (show mdP a b c = (0, 0, false) by unfold mdP; rw [if_neg (by omega)])
    clear hh hl hs hx hq hr
    go_enter Tryz.func108, Tryz.ntmps108
    go_wp2_with (first | (go_at_call 133; refine (Mul64_at a b h l _ ⟨by omega, by omega⟩ ⟨by omega, by omega⟩ HH.out HL.out).mono ?_; rintro e w' ⟨rfl, rfl⟩) | (go_at_call 134; refine (Div64_at h l c _ (by omega) ⟨by omega, by omega⟩ (by omega) (by omega)).mono ?_; rw [HS.out, HQ.out, HR.out]; rintro e w2 ⟨rfl, hb⟩))
    go_ret3
    exact ⟨by rw [Q.out]; rfl, hb⟩
  · have Q := Lib.hid (show mdP a b c = (q, r, true) by unfold mdP; rw [if_pos (by omega), hq, hr])
    clear hh hl hs hx hq hr
    go_enter Tryz.func108, Tryz.ntmps108
    go_wp2_with (first | (go_at_call 133; refine (Mul64_at a b h l _ ⟨by omega, by omega⟩ ⟨by omega, by omega⟩ HH.out HL.out).mono ?_; rintro e w' ⟨rfl, rfl⟩) | (go_at_call 134; refine (Div64_at h l c _ (by omega) ⟨by omega, by omega⟩ (by omega) (by omega)).mono ?_; rw [HS.out, HQ.out, HR.out]; rintro e w2 ⟨rfl, hb⟩))
    go_ret3
    exact ⟨by rw [Q.out]; rfl, hb⟩

/-- the reference's quotient and remainder -/
def ldP (a b c : Int) : Int × Int := if a * b / c ≤ 1000000000000000000 then (a * b / c, a * b % c) else (2000000000000000000, 0)
theorem dm_step {c x q r : Int} (hc : 1 ≤ c) (h : x = c * q + r) : x / c = q + r / c ∧ x % c = r % c := by
  subst h
  exact ⟨by rw [Int.add_comm, Int.add_mul_ediv_left _ _ (by omega)]; omega, by rw [Int.mul_add_emod_self_left]⟩
theorem bit_even {A A2 b c : Int} (hc : 1 ≤ c) (h : A2 = 2 * A) : A2 * b / c = 2 * (A * b / c) + 2 * (A * b % c) / c ∧ A2 * b % c = 2 * (A * b % c) % c := by
  refine dm_step hc ?_
  have e := Int.mul_ediv_add_emod (A * b) c
  have e2 : A2 * b = 2 * (A * b) := by rw [h, Int.mul_assoc]
  have e3 : c * (2 * (A * b / c)) = 2 * (c * (A * b / c)) := Int.mul_left_comm _ _ _
  rw [e2, e3]; omega
theorem bit_odd {A A2 b c : Int} (hc : 1 ≤ c) (h : A2 = 2 * A + 1) : A2 * b / c = 2 * (A * b / c) + b / c + (2 * (A * b % c) + b % c) / c ∧ A2 * b % c = (2 * (A * b % c) + b % c) % c := by
  refine dm_step hc ?_
  have e1 := Int.mul_ediv_add_emod (A * b) c
  have e2 := Int.mul_ediv_add_emod b c
  have e3 : A2 * b = 2 * (A * b) + b := by rw [h, Int.add_mul, Int.mul_assoc, Int.one_mul]
  have e4 : c * (2 * (A * b / c) + b / c) = 2 * (c * (A * b / c)) + c * (b / c) := by rw [Int.mul_add, Int.mul_left_comm]
  rw [e3, e4]; omega
theorem part_le {a b c : Int} (k : Nat) (ha : 0 ≤ a) (hb : 0 ≤ b) (hc : 1 ≤ c) : a / 2 ^ k * b / c ≤ a * b / c := by
  apply Int.ediv_le_ediv (by omega)
  exact Int.mul_le_mul_of_nonneg_right (Int.ediv_le_self _ ha) hb

set_option maxHeartbeats 2000000 in
theorem spec_l05Divide_any (a b c : Int) (w : World) (ha : 0 ≤ a ∧ a < 4398046511104) (hb : 0 ≤ b ∧ b ≤ 1000000000000000000) (hc : 1 ≤ c ∧ c ≤ 1000000000000000000) :
    Calls Tryz.prog 75 #[.int .i64 a, .int .i64 b, .int .i64 c] w fun e w' => e = .returned (.tuple #[.int .i64 (ldP a b c).1, .int .i64 (ldP a b c).2]) ∧ w = w' := by
  obtain ⟨a1, a2⟩ := ha
  obtain ⟨b1, b2⟩ := hb
  obtain ⟨c1, c2⟩ := hc
  have hcz : ¬ c = 0 := by omega
  have HA := Lib.hid (show a / 2 ^ 42 = 0 from Int.ediv_eq_zero_of_lt a1 (by omega))
  have bq1 : 0 ≤ b / c := Int.ediv_nonneg b1 (by omega)
  have bq2 : b / c ≤ 1000000000000000000 := by have := Int.ediv_le_self c b1; omega
  have br1 : 0 ≤ b % c := Int.emod_nonneg _ (by omega)
  have br2 : b % c < c := Int.emod_lt_of_pos _ (by omega)
  go_enter Tryz.func75, Tryz.ntmps75
  go_wp2
  go_loop [8, 9, 10] (fun x y i => ∃ (k : Nat) (A q r : Int), k ≤ 42 ∧ i = .int .i64 ((k : Int) - 1) ∧ x = .int .i64 q ∧ y = .int .i64 r ∧ Hid (a / 2 ^ k = A) ∧ Hid (A * b / c = q) ∧ Hid (A * b % c = r) ∧ 0 ≤ q ∧ q ≤ 1000000000000000000) (fun _ _ i => (intOf i + 1).toNat)
  case atStart => exact ⟨42, 0, 0, 0, by omega, rfl, rfl, rfl, HA, Lib.hid (by simp), Lib.hid (by simp), by omega, by omega⟩
  case round =>
    obtain ⟨k, A, q, r, hk, rfl, rfl, rfl, hA, hq, hr, q1, q2⟩ := hrel
    have r1 : 0 ≤ r := by rw [← hr.out]; exact Int.emod_nonneg _ (by omega)
    have r2 : r < c := by rw [← hr.out]; exact Int.emod_lt_of_pos _ (by omega)
    cases k with
    | zero =>
      have Q := Lib.hid (show ldP a b c = (q, r) by
        have h1 := hA.out
        simp only [Int.pow_zero, Int.ediv_one] at h1
        subst h1
        unfold ldP; rw [if_pos (by rw [hq.out]; omega), hq.out, hr.out])
      rw [show (((0 : Nat) : Int) - 1) = -1 from rfl]
      go_wp2
      go_ret2
      exact ⟨by rw [Q.out]; rfl, rfl⟩
    | succ k =>
      obtain ⟨A2, hA2⟩ : ∃ A2, a / 2 ^ k = A2 := ⟨_, rfl⟩
      have A2p : 0 ≤ A2 := by rw [← hA2]; exact Int.ediv_nonneg a1 (Int.pow_nonneg (by omega))
      have hdiv : A2 / 2 = A := by
        have := hA.out
        rw [Int.pow_succ, ← Int.ediv_ediv_of_nonneg (Int.pow_nonneg (by omega)), hA2] at this
        exact this
      have HA2 := Lib.hid hA2
      have e1 : (((k + 1 : Nat) : Int) - 1) = (k : Int) := by omega
      rw [e1]
      have hk42 : (k : Int) ≤ 41 := by omega
      have hle : A2 * b / c ≤ a * b / c := by rw [← hA2]; exact part_le k a1 b1 c1
      have HLE := Lib.hid hle
      by_cases hb : A2 % 2 = 1
      · have hst := bit_odd (A := A) (A2 := A2) (b := b) c1 (by omega)
        rw [hq.out, hr.out] at hst
        have HST := Lib.hid hst
        have t1 : 0 ≤ (2 * r + b % c) / c := Int.ediv_nonneg (by omega) (by omega)
        have t2 : (2 * r + b % c) / c ≤ 2 * r + b % c := Int.ediv_le_self _ (by omega)
        have hbt : A2.tmod 2 = 1 := by rw [Int.tmod_eq_emod_of_nonneg A2p]; exact hb
        clear hst hdiv
        by_cases hg : 1000000000000000000 < 2 * q + b / c + (2 * r + b % c) / c
        · have Q := Lib.hid (show ldP a b c = (2000000000000000000, 0) by unfold ldP; rw [if_neg (by rw [HST.out.1] at hle; omega)])
          clear hle
          go_wp2
          go_ret2
          exact ⟨by rw [Q.out]; rfl, rfl⟩
        · clear hle
          go_wp2
          go_round
          case rel => exact ⟨k, A2, _, _, by omega, by go_num, rfl, rfl, HA2, Lib.hid HST.out.1, Lib.hid HST.out.2, by omega, by omega⟩
          case measure => simp [intOf] <;> omega
      · have hst := bit_even (A := A) (A2 := A2) (b := b) c1 (by omega)
        rw [hq.out, hr.out] at hst
        have HST := Lib.hid hst
        have t1 : 0 ≤ 2 * r / c := Int.ediv_nonneg (by omega) (by omega)
        have t2 : 2 * r / c ≤ 2 * r := Int.ediv_le_self _ (by omega)
        have hb0 : A2 % 2 = 0 := by omega
        have hbt : A2.tmod 2 = 0 := by rw [Int.tmod_eq_emod_of_nonneg A2p]; exact hb0
        clear hst hdiv hb
        by_cases hg : 1000000000000000000 < 2 * q + 2 * r / c
        · have Q := Lib.hid (show ldP a b c = (2000000000000000000, 0) by unfold ldP; rw [if_neg (by rw [HST.out.1] at hle; omega)])
          clear hle
          go_wp2
          go_ret2
          exact ⟨by rw [Q.out]; rfl, rfl⟩
        · clear hle
          go_wp2
          go_round
          case rel => exact ⟨k, A2, _, _, by omega, by go_num, rfl, rfl, HA2, Lib.hid HST.out.1, Lib.hid HST.out.2, by omega, by omega⟩
          case measure => simp [intOf] <;> omega
end Go.Proofs.YtkdfdbcpbgganaaGreatDoor
end
