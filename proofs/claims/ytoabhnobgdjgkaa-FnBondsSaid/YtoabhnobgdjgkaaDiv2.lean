/- A product divided by a number: the program's function (by the library's words) and the reference's (bit by bit). -/
import Derived.Test.YtoabhnobgdjgkaaDiv
namespace Go.Proofs.Ytoabhnobgdjgkaa
open Go.RowKit Go.BigFrame

theorem Mul64_at (a b h l : Int) (w : World) (ha : 0 ≤ a ∧ a < 18446744073709551616) (hb : 0 ≤ b ∧ b < 18446744073709551616) (hh : a * b / 18446744073709551616 = h) (hl : a * b % 18446744073709551616 = l) :
    Calls Try.prog 131 #[.int .u64 a, .int .u64 b] w fun e w' => e = .returned (.tuple #[.int .u64 h, .int .u64 l]) ∧ w = w' := by
  obtain ⟨an, rfl⟩ := Int.eq_ofNat_of_zero_le ha.1
  obtain ⟨bn, rfl⟩ := Int.eq_ofNat_of_zero_le hb.1
  subst hh hl
  refine (Try.bits_Mul64 an bn (by omega) (by omega) w).mono ?_
  rintro e w' ⟨rfl, rfl⟩
  exact ⟨by simp, rfl⟩

/-- a * b / c, the remainder, and whether the quotient is 10^18 at most -/
def mdP (a b c : Int) : Int × Int × Bool := if a * b / c ≤ 1000000000000000000 then (a * b / c, a * b % c, true) else (0, 0, false)
theorem prod_parts {a b : Int} (ha : 0 ≤ a) (hb : 0 ≤ b) (ha2 : a ≤ 9223372036854775807) (hb2 : b ≤ 9223372036854775807) : 0 ≤ a * b ∧ a * b ≤ 9223372036854775807 * 9223372036854775807 :=
  ⟨Int.mul_nonneg ha hb, Int.mul_le_mul ha2 hb2 hb (by omega)⟩
theorem quo_great {x c : Int} (hc : 1 ≤ c) (h : c ≤ x / 18446744073709551616) : 1000000000000000000 < x / c := by
  have h1 : c * 18446744073709551616 ≤ x := by omega
  have h2 : 18446744073709551616 ≤ x / c := Int.le_ediv_of_mul_le (by omega) (by omega)
  omega

set_option maxHeartbeats 1000000 in
theorem impl_multiplyDivide_any (a b c : Int) (w : World) (ha : 0 ≤ a ∧ a ≤ 9223372036854775807) (hb : 0 ≤ b ∧ b ≤ 9223372036854775807) (hc : 1 ≤ c ∧ c ≤ 9223372036854775807) :
    Calls Try.prog 126 #[.int .i64 a, .int .i64 b, .int .i64 c] w fun e w' => e = .returned (.tuple #[.int .i64 (mdP a b c).1, .int .i64 (mdP a b c).2.1, .bool (mdP a b c).2.2]) ∧ Below w.heap.size w w' := by
  obtain ⟨a1, a2⟩ := ha
  obtain ⟨b1, b2⟩ := hb
  obtain ⟨c1, c2⟩ := hc
  obtain ⟨p1, p2⟩ := prod_parts a1 b1 a2 b2
  obtain ⟨x, hx⟩ : ∃ x, a * b = x := ⟨_, rfl⟩
  obtain ⟨h, hh⟩ : ∃ h, a * b / 18446744073709551616 = h := ⟨_, rfl⟩
  obtain ⟨l, hl⟩ : ∃ l, a * b % 18446744073709551616 = l := ⟨_, rfl⟩
  have HH := Lib.hid hh; have HL := Lib.hid hl
  have h1 : 0 ≤ h := by omega
  have h2 : h < 18446744073709551616 := by omega
  have l1 : 0 ≤ l := by omega
  have l2 : l < 18446744073709551616 := by omega
  have hs : h * 18446744073709551616 + l = a * b := by omega
  have HS := Lib.hid hs
  by_cases hge : c ≤ h
  · have Q := Lib.hid (show mdP a b c = (0, 0, false) by unfold mdP; rw [if_neg (by have := quo_great c1 (show c ≤ a * b / 18446744073709551616 by omega); omega)])
    clear hh hl hs hx
    go_enter Try.func126, Try.ntmps126
    go_wp2_with (first | (go_at_call 131; refine (Mul64_at a b h l _ ⟨by omega, by omega⟩ ⟨by omega, by omega⟩ HH.out HL.out).mono ?_; rintro e w' ⟨rfl, rfl⟩))
    go_ret3
    exact ⟨by rw [Q.out]; rfl, Below.refl _ _⟩
  obtain ⟨q, hq⟩ : ∃ q, a * b / c = q := ⟨_, rfl⟩
  obtain ⟨r, hr⟩ : ∃ r, a * b % c = r := ⟨_, rfl⟩
  have q1 : 0 ≤ q := by rw [← hq]; exact Int.ediv_nonneg p1 (by omega)
  have q2 : q < 18446744073709551616 := by
    rw [← hq]
    refine Int.ediv_lt_of_lt_mul (by omega) ?_
    have : (h + 1) * 18446744073709551616 ≤ c * 18446744073709551616 := by omega
    omega
  have r1 : 0 ≤ r := by rw [← hr]; exact Int.emod_nonneg _ (by omega)
  have r2 : r < c := by rw [← hr]; exact Int.emod_lt_of_pos _ (by omega)
  have HQ := Lib.hid hq; have HR := Lib.hid hr
  by_cases hg : 1000000000000000000 < q
  · have Q := Lib.hid (show mdP a b c = (0, 0, false) by unfold mdP; rw [if_neg (by omega)])
    clear hh hl hs hx hq hr
    go_enter Try.func126, Try.ntmps126
    go_wp2_with (first | (go_at_call 131; refine (Mul64_at a b h l _ ⟨by omega, by omega⟩ ⟨by omega, by omega⟩ HH.out HL.out).mono ?_; rintro e w' ⟨rfl, rfl⟩) | (go_at_call 132; refine (Div64_at h l c _ (by omega) ⟨by omega, by omega⟩ (by omega) (by omega)).mono ?_; rw [HS.out, HQ.out, HR.out]; rintro e w2 ⟨rfl, hb⟩))
    go_ret3
    exact ⟨by rw [Q.out]; rfl, hb⟩
  · have Q := Lib.hid (show mdP a b c = (q, r, true) by unfold mdP; rw [if_pos (by omega), hq, hr])
    clear hh hl hs hx hq hr
    go_enter Try.func126, Try.ntmps126
    go_wp2_with (first | (go_at_call 131; refine (Mul64_at a b h l _ ⟨by omega, by omega⟩ ⟨by omega, by omega⟩ HH.out HL.out).mono ?_; rintro e w' ⟨rfl, rfl⟩) | (go_at_call 132; refine (Div64_at h l c _ (by omega) ⟨by omega, by omega⟩ (by omega) (by omega)).mono ?_; rw [HS.out, HQ.out, HR.out]; rintro e w2 ⟨rfl, hb⟩))
    go_ret3
    exact ⟨by rw [Q.out]; rfl, hb⟩

/-- the reference's quotient and remainder -/
def ldP (a b c : Int) : Int × Int := if a * b / c ≤ 1000000000000000000 then (a * b / c, a * b % c) else (2000000000000000000, 0)
theorem dm_step {c x q r : Int} (hc : 1 ≤ c) (h : x = c * q + r) : x / c = q + r / c ∧ x % c = r % c := by
  subst h
  exact ⟨by rw [Int.add_comm, Int.add_mul_ediv_left _ _ (by omega)]; omega, by rw [Int.mul_add_emod_self_left]⟩
theorem bit_even {A A2 b c : Int} (hc : 1 ≤ c) (h : A2 = 2 * A) : A2 * b / c = 2 * (A * b / c) + 2 * (A * b % c) / c ∧ A2 * b % c = 2 * (A * b % c) % c := by
  refine dm_step hc ?_
  have e := Int.mul_ediv_add_emod (A * b) c
  have e2 : A2 * b = 2 * (A * b) := by rw [h, Int.mul_assoc]
  have e3 : c * (2 * (A * b / c)) = 2 * (c * (A * b / c)) := Int.mul_left_comm _ _ _
  rw [e2, e3]; omega
theorem bit_odd {A A2 b c : Int} (hc : 1 ≤ c) (h : A2 = 2 * A + 1) : A2 * b / c = 2 * (A * b / c) + b / c + (2 * (A * b % c) + b % c) / c ∧ A2 * b % c = (2 * (A * b % c) + b % c) % c := by
  refine dm_step hc ?_
  have e1 := Int.mul_ediv_add_emod (A * b) c
  have e2 := Int.mul_ediv_add_emod b c
  have e3 : A2 * b = 2 * (A * b) + b := by rw [h, Int.add_mul, Int.mul_assoc, Int.one_mul]
  have e4 : c * (2 * (A * b / c) + b / c) = 2 * (c * (A * b / c)) + c * (b / c) := by rw [Int.mul_add, Int.mul_left_comm]
  rw [e3, e4]; omega
theorem part_le {a b c : Int} (k : Nat) (ha : 0 ≤ a) (hb : 0 ≤ b) (hc : 1 ≤ c) : a / 2 ^ k * b / c ≤ a * b / c := by
  apply Int.ediv_le_ediv (by omega)
  exact Int.mul_le_mul_of_nonneg_right (Int.ediv_le_self _ ha) hb

set_option maxHeartbeats 2000000 in
theorem spec_l05Divide_any (a b c : Int) (w : World) (ha : 0 ≤ a ∧ a < 4398046511104) (hb : 0 ≤ b ∧ b ≤ 1000000000000000000) (hc : 1 ≤ c ∧ c ≤ 1000000000000000000) :
    Calls Try.prog 127 #[.int .i64 a, .int .i64 b, .int .i64 c] w fun e w' => e = .returned (.tuple #[.int .i64 (ldP a b c).1, .int .i64 (ldP a b c).2]) ∧ w = w' := by
  obtain ⟨a1, a2⟩ := ha
  obtain ⟨b1, b2⟩ := hb
  obtain ⟨c1, c2⟩ := hc
  have hcz : ¬ c = 0 := by omega
  have HA := Lib.hid (show a / 2 ^ 42 = 0 from Int.ediv_eq_zero_of_lt a1 (by omega))
  have bq1 : 0 ≤ b / c := Int.ediv_nonneg b1 (by omega)
  have bq2 : b / c ≤ 1000000000000000000 := by have := Int.ediv_le_self c b1; omega
  have br1 : 0 ≤ b % c := Int.emod_nonneg _ (by omega)
  have br2 : b % c < c := Int.emod_lt_of_pos _ (by omega)
  go_enter Try.func127, Try.ntmps127
  go_wp2
  go_loop [8, 9, 10] (fun x y i => ∃ (k : Nat) (A q r : Int), k ≤ 42 ∧ i = .int .i64 ((k : Int) - 1) ∧ x = .int .i64 q ∧ y = .int .i64 r ∧ Hid (a / 2 ^ k = A) ∧ Hid (A * b / c = q) ∧ Hid (A * b % c = r) ∧ 0 ≤ q ∧ q ≤ 1000000000000000000) (fun _ _ i => (intOf i + 1).toNat)
  case atStart => exact ⟨42, 0, 0, 0, by omega, rfl, rfl, rfl, HA, Lib.hid (by simp), Lib.hid (by simp), by omega, by omega⟩
  case round =>
    obtain ⟨k, A, q, r, hk, rfl, rfl, rfl, hA, hq, hr, q1, q2⟩ := hrel
    have r1 : 0 ≤ r := by rw [← hr.out]; exact Int.emod_nonneg _ (by omega)
    have r2 : r < c := by rw [← hr.out]; exact Int.emod_lt_of_pos _ (by omega)
    cases k with
    | zero =>
      have Q := Lib.hid (show ldP a b c = (q, r) by
        have h1 := hA.out
        simp only [Int.pow_zero, Int.ediv_one] at h1
        subst h1
        unfold ldP; rw [if_pos (by rw [hq.out]; omega), hq.out, hr.out])
      rw [show (((0 : Nat) : Int) - 1) = -1 from rfl]
      go_wp2
      go_ret2
      exact ⟨by rw [Q.out]; rfl, rfl⟩
    | succ k =>
      obtain ⟨A2, hA2⟩ : ∃ A2, a / 2 ^ k = A2 := ⟨_, rfl⟩
      have A2p : 0 ≤ A2 := by rw [← hA2]; exact Int.ediv_nonneg a1 (Int.pow_nonneg (by omega))
      have hdiv : A2 / 2 = A := by
        have := hA.out
        rw [Int.pow_succ, ← Int.ediv_ediv_of_nonneg (Int.pow_nonneg (by omega)), hA2] at this
        exact this
      have HA2 := Lib.hid hA2
      have e1 : (((k + 1 : Nat) : Int) - 1) = (k : Int) := by omega
      rw [e1]
      have hk42 : (k : Int) ≤ 41 := by omega
      have hle : A2 * b / c ≤ a * b / c := by rw [← hA2]; exact part_le k a1 b1 c1
      have HLE := Lib.hid hle
      by_cases hb : A2 % 2 = 1
      · have hst := bit_odd (A := A) (A2 := A2) (b := b) c1 (by omega)
        rw [hq.out, hr.out] at hst
        have HST := Lib.hid hst
        have t1 : 0 ≤ (2 * r + b % c) / c := Int.ediv_nonneg (by omega) (by omega)
        have t2 : (2 * r + b % c) / c ≤ 2 * r + b % c := Int.ediv_le_self _ (by omega)
        have hbt : A2.tmod 2 = 1 := by rw [Int.tmod_eq_emod_of_nonneg A2p]; exact hb
        clear hst hdiv
        by_cases hg : 1000000000000000000 < 2 * q + b / c + (2 * r + b % c) / c
        · have Q := Lib.hid (show ldP a b c = (2000000000000000000, 0) by unfold ldP; rw [if_neg (by rw [HST.out.1] at hle; omega)])
          clear hle
          go_wp2
          go_ret2
          exact ⟨by rw [Q.out]; rfl, rfl⟩
        · clear hle
          go_wp2
          go_round
          case rel => exact ⟨k, A2, _, _, by omega, by go_num, rfl, rfl, HA2, Lib.hid HST.out.1, Lib.hid HST.out.2, by omega, by omega⟩
          case measure => simp [intOf] <;> omega
      · have hst := bit_even (A := A) (A2 := A2) (b := b) c1 (by omega)
        rw [hq.out, hr.out] at hst
        have HST := Lib.hid hst
        have t1 : 0 ≤ 2 * r / c := Int.ediv_nonneg (by omega) (by omega)
        have t2 : 2 * r / c ≤ 2 * r := Int.ediv_le_self _ (by omega)
        have hb0 : A2 % 2 = 0 := by omega
        have hbt : A2.tmod 2 = 0 := by rw [Int.tmod_eq_emod_of_nonneg A2p]; exact hb0
        clear hst hdiv hb
        by_cases hg : 1000000000000000000 < 2 * q + 2 * r / c
        · have Q := Lib.hid (show ldP a b c = (2000000000000000000, 0) by unfold ldP; rw [if_neg (by rw [HST.out.1] at hle; omega)])
          clear hle
          go_wp2
          go_ret2
          exact ⟨by rw [Q.out]; rfl, rfl⟩
        · clear hle
          go_wp2
          go_round
          case rel => exact ⟨k, A2, _, _, by omega, by go_num, rfl, rfl, HA2, Lib.hid HST.out.1, Lib.hid HST.out.2, by omega, by omega⟩
          case measure => simp [intOf] <;> omega
end Go.Proofs.Ytoabhnobgdjgkaa
