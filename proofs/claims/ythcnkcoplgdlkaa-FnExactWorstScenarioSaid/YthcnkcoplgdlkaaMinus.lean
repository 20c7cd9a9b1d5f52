/- The difference of two products divided by a number, bit by bit: the reference's contract. -/
import Derived.Test.YthcnkcoplgdlkaaDiv2
namespace Go.Proofs.Ythcnkcoplgdlkaa
open Go.RowKit Go.BigFrame

theorem minus_parts {a b s c d A S : Int} (hA : 0 ≤ A ∧ A ≤ a) (hS : 0 ≤ S ∧ S ≤ s) (hb : 0 ≤ b) (hc : 0 ≤ c) (hd : 1 ≤ d) (h1 : a * b / d ≤ 100000000000000000) (h2 : s * c / d ≤ 100000000000000000) :
    -100000000000000001 ≤ (A * b - S * c) / d ∧ (A * b - S * c) / d ≤ 100000000000000000 := by
  have e1 : A * b ≤ a * b := Int.mul_le_mul_of_nonneg_right hA.2 hb
  have e2 : S * c ≤ s * c := Int.mul_le_mul_of_nonneg_right hS.2 hc
  have e3 : 0 ≤ A * b := Int.mul_nonneg hA.1 hb
  have e4 : 0 ≤ S * c := Int.mul_nonneg hS.1 hc
  have f1 : (A * b - S * c) / d ≤ a * b / d := Int.ediv_le_ediv (by omega) (by omega)
  have f2 : -(s * c) / d ≤ (A * b - S * c) / d := Int.ediv_le_ediv (by omega) (by omega)
  have f3 : -(s * c / d) - 1 ≤ -(s * c) / d := by
    apply Int.le_ediv_of_mul_le (by omega)
    have g1 := Int.mul_ediv_add_emod (s * c) d
    have g2 := Int.emod_lt_of_pos (s * c) (by omega : 0 < d)
    have g3 := Int.emod_nonneg (s * c) (by omega : d ≠ 0)
    rw [Int.sub_mul, Int.neg_mul, Int.mul_comm (s * c / d)]
    omega
  omega
theorem quo_of {x d q r : Int} (h : q * d + r = x) (h0 : 0 ≤ r) (h1 : r < d) : x / d = q ∧ x % d = r := by
  subst h
  rw [Int.add_comm, Int.add_mul_ediv_right _ _ (by omega), Int.ediv_eq_zero_of_lt h0 h1, Int.add_mul_emod_self_right, Int.emod_eq_of_lt h0 h1]
  omega
theorem q_near {x d q r : Int} (hd : 1 ≤ d) (h : q * d + r = x) (h0 : -d < r) (h1 : r < 3 * d) : x / d - 2 ≤ q ∧ q ≤ x / d + 1 := by
  have e : x / d = q + r / d := by subst h; rw [Int.add_comm, Int.add_mul_ediv_right _ _ (by omega)]; omega
  have e1 : -1 ≤ r / d := Int.le_ediv_of_mul_le (by omega) (by omega)
  have e2 : r / d < 3 := Int.ediv_lt_of_lt_mul (by omega) h1
  omega
theorem pow_half {a : Int} {k : Nat} (_ha : 0 ≤ a) : a / 2 ^ k / 2 = a / 2 ^ (k + 1) := by
  rw [Int.pow_succ, ← Int.ediv_ediv_of_nonneg (Int.pow_nonneg (by omega))]

set_option maxHeartbeats 8000000 in
theorem spec_l10Minus_any (a b s c d : Int) (w : World) (ha : 0 ≤ a ∧ a < 4398046511104) (hb : 0 ≤ b ∧ b ≤ 1000000000000000000) (hs : 0 ≤ s ∧ s < 4398046511104) (hc : 0 ≤ c ∧ c ≤ 1000000000000000000) (hd : 1 ≤ d ∧ d ≤ 1000000000000000000)
    (h1 : a * b / d ≤ 100000000000000000) (h2 : s * c / d ≤ 100000000000000000) :
    Calls Try.prog 188 #[.int .i64 a, .int .i64 b, .int .i64 s, .int .i64 c, .int .i64 d] w fun e w' => e = .returned (.tuple #[.int .i64 ((a * b - s * c) / d), .int .i64 ((a * b - s * c) % d)]) ∧ w = w' := by
  obtain ⟨a1, a2⟩ := ha
  obtain ⟨b1, b2⟩ := hb
  obtain ⟨s1, s2⟩ := hs
  obtain ⟨c1, c2⟩ := hc
  obtain ⟨d1, d2⟩ := hd
  have hdz : ¬ d = 0 := by omega
  have HA42 := Lib.hid (show a / 2 ^ 42 = 0 from Int.ediv_eq_zero_of_lt a1 (by omega))
  have HS42 := Lib.hid (show s / 2 ^ 42 = 0 from Int.ediv_eq_zero_of_lt s1 (by omega))
  have HPB := Lib.hid (fun (k : Nat) => minus_parts (a := a) (b := b) (s := s) (c := c) (d := d) (A := a / 2 ^ k) (S := s / 2 ^ k) ⟨Int.ediv_nonneg a1 (Int.pow_nonneg (by omega)), Int.ediv_le_self _ a1⟩ ⟨Int.ediv_nonneg s1 (Int.pow_nonneg (by omega)), Int.ediv_le_self _ s1⟩ b1 c1 d1 h1 h2)
  have bq1 : 0 ≤ b / d := Int.ediv_nonneg b1 (by omega)
  have bq2 : b / d ≤ 1000000000000000000 := by have := Int.ediv_le_self d b1; omega
  have br1 : 0 ≤ b % d := Int.emod_nonneg _ (by omega)
  have br2 : b % d < d := Int.emod_lt_of_pos _ (by omega)
  have cq1 : 0 ≤ c / d := Int.ediv_nonneg c1 (by omega)
  have cq2 : c / d ≤ 1000000000000000000 := by have := Int.ediv_le_self d c1; omega
  have cr1 : 0 ≤ c % d := Int.emod_nonneg _ (by omega)
  have cr2 : c % d < d := Int.emod_lt_of_pos _ (by omega)
  have HBD := Lib.hid (Int.mul_ediv_add_emod b d)
  have HCD := Lib.hid (Int.mul_ediv_add_emod c d)
  obtain ⟨bq, hbq⟩ : ∃ x, b / d = x := ⟨_, rfl⟩
  obtain ⟨br, hbr⟩ : ∃ x, b % d = x := ⟨_, rfl⟩
  obtain ⟨cq, hcq⟩ : ∃ x, c / d = x := ⟨_, rfl⟩
  obtain ⟨cr, hcr⟩ : ∃ x, c % d = x := ⟨_, rfl⟩
  rw [hbq] at bq1 bq2
  rw [hbr] at br1 br2
  rw [hcq] at cq1 cq2
  rw [hcr] at cr1 cr2
  rw [hbq, hbr] at HBD
  rw [hcq, hcr] at HCD
  go_enter Try.func188, Try.ntmps188
  go_wp2
  go_loop [12, 13, 14] (fun x y i => ∃ (k : Nat) (q r : Int), k ≤ 42 ∧ i = .int .i64 ((k : Int) - 1) ∧ x = .int .i64 q ∧ y = .int .i64 r ∧ Hid (q * d + r = a / 2 ^ k * b - s / 2 ^ k * c) ∧ 0 ≤ r ∧ r < d ∧ -100000000000000001 ≤ q ∧ q ≤ 100000000000000000) (fun _ _ i => (intOf i + 1).toNat)
  case atStart => exact ⟨42, 0, 0, by omega, rfl, rfl, rfl, Lib.hid (by rw [HA42.out, HS42.out]; simp), by omega, by omega, by omega, by omega⟩
  case round =>
    obtain ⟨k, q, r, hk, rfl, rfl, rfl, hq, r1, r2, q1, q2⟩ := hrel
    cases k with
    | zero =>
      have hx := hq.out
      simp only [Int.pow_zero, Int.ediv_one] at hx
      have Q := Lib.hid (quo_of hx r1 r2)
      clear hx
      rw [show (((0 : Nat) : Int) - 1) = -1 from rfl]
      go_wp2
      go_ret2
      exact ⟨by rw [Q.out.1, Q.out.2]; rfl, rfl⟩
    | succ k =>
      obtain ⟨A2, hA2⟩ : ∃ A2, a / 2 ^ k = A2 := ⟨_, rfl⟩
      obtain ⟨S2, hS2⟩ : ∃ S2, s / 2 ^ k = S2 := ⟨_, rfl⟩
      have A2p : 0 ≤ A2 := by rw [← hA2]; exact Int.ediv_nonneg a1 (Int.pow_nonneg (by omega))
      have S2p : 0 ≤ S2 := by rw [← hS2]; exact Int.ediv_nonneg s1 (Int.pow_nonneg (by omega))
      have hdA : A2 / 2 = a / 2 ^ (k + 1) := by rw [← hA2]; exact pow_half a1
      have hdS : S2 / 2 = s / 2 ^ (k + 1) := by rw [← hS2]; exact pow_half s1
      have hqo := hq.out
      rw [← hdA, ← hdS] at hqo
      have HQ := Lib.hid hqo
      have HX := Lib.hid (HPB.out k)
      rw [hA2, hS2] at HX
      have HA2 := Lib.hid hA2; have HS2 := Lib.hid hS2
      rw [show (((k + 1 : Nat) : Int) - 1) = (k : Int) by omega]
      have hk42 : (k : Int) ≤ 41 := by omega
      clear hdA hdS hqo hq
      obtain ⟨Ah, hAh⟩ : ∃ Ah, A2 / 2 = Ah := ⟨_, rfl⟩
      obtain ⟨Sh, hSh⟩ : ∃ Sh, S2 / 2 = Sh := ⟨_, rfl⟩
      rw [hAh, hSh] at HQ
      obtain ⟨ea, hea⟩ : ∃ ea, A2 % 2 = ea := ⟨_, rfl⟩
      obtain ⟨es, hes⟩ : ∃ es, S2 % 2 = es := ⟨_, rfl⟩
      have eab : ea = 0 ∨ ea = 1 := by omega
      have esb : es = 0 ∨ es = 1 := by omega
      have hta : A2.tmod 2 = ea := by rw [Int.tmod_eq_emod_of_nonneg A2p]; exact hea
      have hts : S2.tmod 2 = es := by rw [Int.tmod_eq_emod_of_nonneg S2p]; exact hes
      have HN := Lib.hid (show (2 * q + ea * bq - es * cq) * d + (2 * r + ea * br - es * cr) = A2 * b - S2 * c by
        have e1 : A2 = 2 * Ah + ea := by omega
        have e2 : S2 = 2 * Sh + es := by omega
        have e3 := HQ.out
        have e4 := HBD.out
        have e5 := HCD.out
        have e6 : A2 * b = 2 * (Ah * b) + ea * b := by rw [e1, Int.add_mul, Int.mul_assoc]
        have e7 : S2 * c = 2 * (Sh * c) + es * c := by rw [e2, Int.add_mul, Int.mul_assoc]
        have e8 : ea * b = ea * bq * d + ea * br := by rw [← e4, Int.mul_add, Int.mul_comm d bq, Int.mul_assoc]
        have e9 : es * c = es * cq * d + es * cr := by rw [← e5, Int.mul_add, Int.mul_comm d cq, Int.mul_assoc]
        rw [Int.sub_mul, Int.add_mul, e6, e7, e8, e9, Int.mul_assoc 2 q d]
        omega)
      clear hea hes hAh hSh
      obtain ⟨qn, hqn⟩ : ∃ qn, 2 * q + ea * bq - es * cq = qn := ⟨_, rfl⟩
      obtain ⟨rn, hrn⟩ : ∃ rn, 2 * r + ea * br - es * cr = rn := ⟨_, rfl⟩
      rw [hqn, hrn] at HN
      rcases eab with rfl | rfl <;> rcases esb with rfl | rfl
      all_goals
        simp only [Int.zero_mul, Int.one_mul, Int.add_zero, Int.sub_zero] at hqn hrn
        go_wp2
        go_loop [12, 13] (fun x y => ∃ q3 r3 : Int, x = .int .i64 q3 ∧ y = .int .i64 r3 ∧ Hid (q3 * d + r3 = A2 * b - S2 * c) ∧ -d < r3 ∧ r3 < 3 * d) (fun _ y => (-(intOf y)).toNat)
        case atStart => exact ⟨qn, rn, rfl, rfl, HN, by omega, by omega⟩
        case round =>
          obtain ⟨q3, r3, rfl, rfl, h3, g1, g2⟩ := hrel
          have hxb := HX.out
          obtain ⟨x1, x2⟩ := hxb
          have hqn3 := q_near d1 h3.out g1 g2
          obtain ⟨n1, n2⟩ := hqn3
          by_cases hneg : r3 < 0
          · have H4 := Lib.hid (show (q3 - 1) * d + (r3 + d) = A2 * b - S2 * c by rw [Int.sub_mul, ← h3.out]; omega)
            go_wp2
            go_round
            case rel => exact ⟨_, _, rfl, rfl, H4, by omega, by omega⟩
            case measure => simp [intOf]; omega
          · go_wp2
            go_loop [12, 13] (fun x y => ∃ q3 r3 : Int, x = .int .i64 q3 ∧ y = .int .i64 r3 ∧ Hid (q3 * d + r3 = A2 * b - S2 * c) ∧ 0 ≤ r3 ∧ r3 < 3 * d) (fun _ y => (intOf y).toNat)
            case atStart => exact ⟨q3, r3, rfl, rfl, h3, by omega, by omega⟩
            case round =>
              obtain ⟨q4, r4, rfl, rfl, h4, g3, g4⟩ := hrel
              have hqn4 := q_near d1 h4.out (by omega) g4
              obtain ⟨n3, n4⟩ := hqn4
              by_cases hge : d ≤ r4
              · have H5 := Lib.hid (show (q4 + 1) * d + (r4 - d) = A2 * b - S2 * c by rw [Int.add_mul, ← h4.out]; omega)
                go_wp2
                go_round
                case rel => exact ⟨_, _, rfl, rfl, H5, by omega, by omega⟩
                case measure => simp [intOf]; omega
              · have HQ5 := Lib.hid (quo_of h4.out g3 (by omega))
                have hq4 : -100000000000000001 ≤ q4 ∧ q4 ≤ 100000000000000000 := by rw [← HQ5.out.1]; exact HX.out
                go_wp2
                go_round
                case rel => exact ⟨k, q4, r4, by omega, by go_num, rfl, rfl, Lib.hid (by rw [HA2.out, HS2.out]; exact h4.out), g3, by omega, hq4.1, hq4.2⟩
                case measure => simp [intOf] <;> omega
end Go.Proofs.Ythcnkcoplgdlkaa
