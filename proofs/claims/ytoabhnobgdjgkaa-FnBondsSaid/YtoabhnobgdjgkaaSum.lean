/- The sum of a list of numbers: the program's and the reference's contracts. -/
import Derived.Test.YtoabhnobgdjgkaaNum
import Derived.Test.YtoabhnobgdjgkaaList
import Derived.Test.YtoabhnobgdjgkaaStInt
namespace Go.Proofs.Ytoabhnobgdjgkaa
open Go.RowKit Go.BigFrame

/-- no sum of a list's first elements is too great for int64 -/
def Sums (xs : List Int) : Prop := ∀ k : Nat, -4000000000000000000 ≤ (xs.take k).sum ∧ (xs.take k).sum ≤ 4000000000000000000
theorem sum_snoc {xs : List Int} {k : Nat} {x : Int} (hx : xs[k]? = some x) : (xs.take (k + 1)).sum = (xs.take k).sum + x := by
  rw [take_succ_snoc hx]; simp
theorem sum_bound {lo hi : Int} (h0 : lo ≤ 0) (h1 : 0 ≤ hi) : ∀ (xs : List Int), (∀ x ∈ xs, lo ≤ x ∧ x ≤ hi) → lo * (xs.length : Int) ≤ xs.sum ∧ xs.sum ≤ hi * (xs.length : Int)
  | [], _ => by simp
  | x :: r, h => by
    have hx := h x (by simp)
    have := sum_bound h0 h1 r fun y hy => h y (by simp [hy])
    simp only [List.sum_cons, List.length_cons, Int.natCast_add, Int.mul_add]
    omega
theorem sums_of {xs : List Int} {hi : Int} {n : Nat} (h1 : 0 ≤ hi) (hl : xs.length ≤ n) (h : ∀ x ∈ xs, 0 ≤ x ∧ x ≤ hi) (hb : hi * (n : Int) ≤ 4000000000000000000) : Sums xs ∧ 0 ≤ xs.sum ∧ xs.sum ≤ hi * (n : Int) := by
  have key : ∀ ys : List Int, ys.length ≤ n → (∀ x ∈ ys, 0 ≤ x ∧ x ≤ hi) → 0 ≤ ys.sum ∧ ys.sum ≤ hi * (n : Int) := fun ys h2 h3 => by
    have := sum_bound (lo := 0) (by omega) h1 ys h3
    have h4 : hi * (ys.length : Int) ≤ hi * (n : Int) := Int.mul_le_mul_of_nonneg_left (by omega) h1
    rw [Int.zero_mul] at this
    omega
  refine ⟨fun k => ?_, key xs hl h⟩
  have := key (xs.take k) (by simp; omega) fun x hx => h x (List.mem_of_mem_take hx)
  omega

set_option maxHeartbeats 1000000 in
theorem impl_total_any (A : Option Addr) (n cap : Nat) (xs : List Int) (w : World) (hl : xs.length = n) (hn : n ≤ 1048576) (hX : Rd w w.heap.size A 1 (intRows xs)) (hs : Sums xs) :
    Calls Try.prog 103 #[.slice A n cap] w fun e w' => e = .returned (.int .i64 xs.sum) ∧ w = w' := by
  have HX := Lib.hid hX; clear hX
  have HL := Lib.hid hl; clear hl
  have HS := Lib.hid hs; clear hs
  go_enter Try.func103, Try.ntmps103
  go_wp2
  go_loop [3, 8] (fun s i => ∃ k : Nat, k ≤ n ∧ i = .int .i64 k ∧ s = .int .i64 (xs.take k).sum) (fun _ i => n - (intOf i).toNat)
  case atStart => exact ⟨0, by omega, rfl, rfl⟩
  case round =>
    obtain ⟨k, hk, rfl, rfl⟩ := hrel
    by_cases hlt : k < n
    · obtain ⟨x, hx⟩ := get_of_lt (xs := xs) (k := k) (by rw [HL.out]; exact hlt)
      obtain ⟨ad, rfl, had, hc⟩ := HX.out.int_at hx
      have HE := Lib.hid (sum_snoc hx)
      have hb := HS.out (k + 1)
      rw [HE.out] at hb
      obtain ⟨b1, b2⟩ := hb
      clear hx
      go_wp2
      go_round
      case rel => exact ⟨k + 1, by omega, by go_num, by rw [HE.out]⟩
      case measure => simp [intOf]; omega
    · have hkn : k = n := by omega
      subst hkn
      go_wp2
      go_ret
      exact ⟨by rw [take_all HL.out]; rfl, rfl⟩

set_option maxHeartbeats 1000000 in
theorem spec_l01Sum_any (A : Option Addr) (n cap : Nat) (xs : List Int) (w : World) (hl : xs.length = n) (hn : n ≤ 1048576) (hX : Rd w w.heap.size A 1 (intRows xs)) (hs : Sums xs) :
    Calls Try.prog 106 #[.slice A n cap] w fun e w' => e = .returned (.int .i64 xs.sum) ∧ w = w' := by
  have HX := Lib.hid hX; clear hX
  have HL := Lib.hid hl; clear hl
  have HS := Lib.hid hs; clear hs
  go_enter Try.func106, Try.ntmps106
  go_wp2
  go_loop [3, 4] (fun s i => ∃ k : Nat, k ≤ n ∧ i = .int .i64 k ∧ s = .int .i64 (xs.take k).sum) (fun _ i => n - (intOf i).toNat)
  case atStart => exact ⟨0, by omega, rfl, rfl⟩
  case round =>
    obtain ⟨k, hk, rfl, rfl⟩ := hrel
    by_cases hlt : k < n
    · obtain ⟨x, hx⟩ := get_of_lt (xs := xs) (k := k) (by rw [HL.out]; exact hlt)
      obtain ⟨ad, rfl, had, hc⟩ := HX.out.int_at hx
      have HE := Lib.hid (sum_snoc hx)
      have hb := HS.out (k + 1)
      rw [HE.out] at hb
      obtain ⟨b1, b2⟩ := hb
      clear hx
      go_wp2
      go_round
      case rel => exact ⟨k + 1, by omega, by go_num, by rw [HE.out]⟩
      case measure => simp [intOf]; omega
    · have hkn : k = n := by omega
      subst hkn
      go_wp2
      go_ret
      exact ⟨by rw [take_all HL.out]; rfl, rfl⟩
end Go.Proofs.Ytoabhnobgdjgkaa
