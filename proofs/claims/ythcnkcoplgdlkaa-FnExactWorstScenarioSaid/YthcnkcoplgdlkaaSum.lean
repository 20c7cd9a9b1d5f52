/- The sum of a list of numbers: the program's and the reference's contracts. -/
import Derived.Test.YthcnkcoplgdlkaaNum
import Derived.Test.YthcnkcoplgdlkaaList
import Derived.Test.YthcnkcoplgdlkaaStInt
namespace Go.Proofs.Ythcnkcoplgdlkaa
open Go.RowKit Go.BigFrame

/-- no sum of a list's first elements is too great for int64 -/
def Sums (xs : List Int) : Prop := ∀ k : Nat, -4000000000000000000 ≤ (xs.take k).sum ∧ (xs.take k).sum ≤ 4000000000000000000
theorem sum_snoc {xs : List Int} {k : Nat} {x : Int} (hx : xs[k]? = some x) : (xs.take (k + 1)).sum = (xs.take k).sum + x := by
  rw [take_succ_snoc hx]; simp
theorem sum_bound {lo hi : Int} (h0 : lo ≤ 0) (h1 : 0 ≤ hi) : ∀ (xs : List Int), (∀ x ∈ xs, lo ≤ x ∧ x ≤ hi) → lo * (xs.length : Int) ≤ xs.sum ∧ xs.sum ≤ hi * (xs.length : Int)
  | [], _ => by simp
  | x :: r, h => by
    have hx := h x (by simp)
    have := sum_bound h0 h1 r fun y hy => h y (by simp [hy])
    simp only [List.sum_cons, List.length_cons, Int.natCast_add, Int.mul_add]
    omega
theorem sums_of {xs : List Int} {hi : Int} {n : Nat} (h1 : 0 ≤ hi) (hl : xs.length ≤ n) (h : ∀ x ∈ xs, 0 ≤ x ∧ x ≤ hi) (hb : hi * (n : Int) ≤ 4000000000000000000) : Sums xs ∧ 0 ≤ xs.sum ∧ xs.sum ≤ hi * (n : Int) := by
  have key : ∀ ys : List Int, ys.length ≤ n → (∀ x ∈ ys, 0 ≤ x ∧ x ≤ hi) → 0 ≤ ys.sum ∧ ys.sum ≤ hi * (n : Int) := fun ys h2 h3 => by
    have := sum_bound (lo := 0) (by omega) h1 ys h3
    have h4 : hi * (ys.length : Int) ≤ hi * (n : Int) := Int.mul_le_mul_of_nonneg_left (by omega) h1
    rw [Int.zero_mul] at this
    omega
  refine ⟨fun k => ?_, key xs hl h⟩
  have := key (xs.take k) (by simp; omega) fun x hx => h x (List.mem_of_mem_take hx)
  omega


end Go.Proofs.Ythcnkcoplgdlkaa
