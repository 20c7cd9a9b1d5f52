/- Fractions in lowest terms: the program's and the reference's contracts. -/
import Derived.Test.YtoabhnobgdjgkaaNum
namespace Go.Proofs.Ytoabhnobgdjgkaa
open Go.RowKit Go.BigFrame

def gcdP (a b : Int) : Int := (Nat.gcd a.toNat b.toNat : Nat)
theorem gcdP_zero {a : Int} (ha : 0 ≤ a) : gcdP a 0 = a := by unfold gcdP; simp; omega
theorem gcdP_step {a b : Int} (ha : 0 ≤ a) (hb : 0 ≤ b) : gcdP b (a % b) = gcdP a b := by
  obtain ⟨an, rfl⟩ := Int.eq_ofNat_of_zero_le ha
  obtain ⟨bn, rfl⟩ := Int.eq_ofNat_of_zero_le hb
  unfold gcdP
  rw [← Int.natCast_emod, Int.toNat_natCast, Int.toNat_natCast, Int.toNat_natCast, Nat.gcd_comm bn, ← Nat.gcd_rec, Nat.gcd_comm]
theorem gcdP_pos {a b : Int} (hb : 1 ≤ b) : 1 ≤ gcdP a b := by
  unfold gcdP
  have := Nat.gcd_pos_of_pos_right a.toNat (show 0 < b.toNat by omega)
  omega
def lowP (a b : Int) : Int × Int := (a / gcdP a b, b / gcdP a b)

theorem impl_commonFactor_any (a b : Int) (w : World) (ha : 0 ≤ a ∧ a ≤ 9223372036854775807) (hb : 0 ≤ b ∧ b ≤ 9223372036854775807) :
    Calls Try.prog 129 #[.int .i64 a, .int .i64 b] w fun e w' => e = .returned (.int .i64 (gcdP a b)) ∧ Below w.heap.size w w' := by
  go_enter Try.func129, Try.ntmps129
  go_wp2
  go_loopw [0, 1] (fun x y wr => ∃ p q : Int, x = .int .i64 p ∧ y = .int .i64 q ∧ (0 ≤ p ∧ p ≤ 9223372036854775807) ∧ (0 ≤ q ∧ q ≤ 9223372036854775807) ∧ Hid (gcdP p q = gcdP a b) ∧ Below w.heap.size w wr) (fun _ y _ => (intOf y).toNat)
  case atStart => exact ⟨a, b, rfl, rfl, ha, hb, Lib.hid rfl, Below.refl _ _⟩
  case round =>
    obtain ⟨p, q, rfl, rfl, ⟨p1, p2⟩, ⟨q1, q2⟩, hg, hbl⟩ := hrel
    by_cases h0 : q = 0
    · subst h0
      have hgo := hg.out
      rw [gcdP_zero p1] at hgo
      have HG := Lib.hid hgo; clear hgo
      go_wp2
      go_ret
      exact ⟨by rw [HG.out]; rfl, hbl⟩
    · have e1 := Int.emod_nonneg p h0
      have e2 := Int.emod_lt_of_pos p (by omega : 0 < q)
      go_wp2
      refine wp_region_past (by kernel_rfl) (by kernel_rfl) ?_
      repeat (go_big_quiet_step (fail))
      refine wpQuiet_nil ?_
      rintro _ ⟨y, rfl⟩
      go_wp2
      go_roundw
      case rel => exact ⟨_, _, rfl, rfl, ⟨q1, q2⟩, ⟨e1, by omega⟩, Lib.hid ((gcdP_step p1 q1).trans hg.out), hbl.trans (y.2.mono hbl.size)⟩
      case measure => simp [intOf]; omega
theorem impl_lowest_any (a b : Int) (w : World) (ha : 0 ≤ a ∧ a ≤ 9223372036854775807) (hb : 1 ≤ b ∧ b ≤ 9223372036854775807) :
    Calls Try.prog 108 #[.int .i64 a, .int .i64 b] w fun e w' => e = .returned (.tuple #[.int .i64 (lowP a b).1, .int .i64 (lowP a b).2]) ∧ Below w.heap.size w w' := by
  have hp := gcdP_pos (a := a) hb.1
  have Q := Lib.hid (show lowP a b = (a / gcdP a b, b / gcdP a b) from rfl)
  obtain ⟨a1, a2⟩ := ha
  obtain ⟨b1, b2⟩ := hb
  have u1 := Int.ediv_le_self (gcdP a b) a1
  have u2 := Int.ediv_le_self (gcdP a b) (show 0 ≤ b by omega)
  have v1 : 0 ≤ a / gcdP a b := Int.ediv_nonneg a1 (by omega)
  have v2 : 0 ≤ b / gcdP a b := Int.ediv_nonneg (by omega) (by omega)
  have hz : ¬ gcdP a b = 0 := by omega
  go_enter Try.func108, Try.ntmps108
  go_wp2_with (first | (go_at_call 129; refine (impl_commonFactor_any a b _ ⟨by omega, by omega⟩ ⟨by omega, by omega⟩).mono ?_; rintro e w1 ⟨rfl, hb1⟩))
  refine wp_region_past (by kernel_rfl) (by kernel_rfl) ?_
  repeat (go_big_quiet_step (fail))
  refine wpQuiet_nil ?_
  rintro _ ⟨y, rfl⟩
  go_wp2
  go_ret2
  exact ⟨by rw [Q.out]; rfl, below_step hb1 y.2⟩
theorem spec_l01Factor_any : ∀ (n : Nat) (a b : Int) (w : World) (_ : 0 ≤ a ∧ a ≤ 9223372036854775807) (_ : 0 ≤ b ∧ b ≤ 9223372036854775807) (_ : b.toNat ≤ n),
    Calls Try.prog 130 #[.int .i64 a, .int .i64 b] w fun e w' => e = .returned (.int .i64 (gcdP a b)) ∧ w = w' := by
  intro n
  induction n with
  | zero =>
    intro a b w ha hb hn
    have h0 : b = 0 := by omega
    subst h0
    have Q := Lib.hid (gcdP_zero ha.1)
    go_enter Try.func130, Try.ntmps130
    go_wp2
    go_ret
    exact ⟨by rw [Q.out]; rfl, rfl⟩
  | succ n ih =>
    intro a b w ha hb hn
    by_cases h0 : b = 0
    · subst h0
      have Q := Lib.hid (gcdP_zero ha.1)
      go_enter Try.func130, Try.ntmps130
      go_wp2
      go_ret
      exact ⟨by rw [Q.out]; rfl, rfl⟩
    · obtain ⟨a1, a2⟩ := ha
      obtain ⟨b1, b2⟩ := hb
      have e1 := Int.emod_nonneg a h0
      have e2 := Int.emod_lt_of_pos a (by omega : 0 < b)
      have Q := Lib.hid (gcdP_step a1 b1)
      have IH := Lib.hid ih; clear ih
      go_enter Try.func130, Try.ntmps130
      go_wp2_with fail
      refine (IH.out b (a % b) _ ⟨b1, b2⟩ ⟨e1, by omega⟩ (by omega)).mono ?_
      rintro e w' ⟨rfl, rfl⟩
      go_wp2
      go_ret
      exact ⟨by rw [Q.out]; rfl, rfl⟩
theorem spec_l03Fraction_any (a b : Int) (w : World) (ha : 0 ≤ a ∧ a ≤ 9223372036854775807) (hb : 1 ≤ b ∧ b ≤ 9223372036854775807) :
    Calls Try.prog 109 #[.int .i64 a, .int .i64 b] w fun e w' => e = .returned (.tuple #[.int .i64 (lowP a b).1, .int .i64 (lowP a b).2]) ∧ Below w.heap.size w w' := by
  have hp := gcdP_pos (a := a) hb.1
  have Q := Lib.hid (show lowP a b = (a / gcdP a b, b / gcdP a b) from rfl)
  obtain ⟨a1, a2⟩ := ha
  obtain ⟨b1, b2⟩ := hb
  have u1 := Int.ediv_le_self (gcdP a b) a1
  have u2 := Int.ediv_le_self (gcdP a b) (show 0 ≤ b by omega)
  have v1 : 0 ≤ a / gcdP a b := Int.ediv_nonneg a1 (by omega)
  have v2 : 0 ≤ b / gcdP a b := Int.ediv_nonneg (by omega) (by omega)
  have hz : ¬ gcdP a b = 0 := by omega
  go_enter Try.func109, Try.ntmps109
  go_wp2_with (first | (go_at_call 130; refine (spec_l01Factor_any b.toNat a b _ ⟨by omega, by omega⟩ ⟨by omega, by omega⟩ (Nat.le_refl _)).mono ?_; rintro e w' ⟨rfl, rfl⟩))
  refine wp_region_past (by kernel_rfl) (by kernel_rfl) ?_
  repeat (go_big_quiet_step (fail))
  refine wpQuiet_nil ?_
  rintro _ ⟨y, rfl⟩
  go_wp2
  go_ret2
  exact ⟨by rw [Q.out]; rfl, y.2⟩
end Go.Proofs.Ytoabhnobgdjgkaa
