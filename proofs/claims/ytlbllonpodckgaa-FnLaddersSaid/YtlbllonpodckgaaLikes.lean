/- The laws' own helpers: equal lists are like each other; the sum of a list. -/
import Derived.Test.YtlbllonpodckgaaNum
import Derived.Test.YtlbllonpodckgaaList
import Derived.Test.YtlbllonpodckgaaStInt
import Derived.Test.YtlbllonpodckgaaBase2
namespace Go.Proofs.Ytlbllonpodckgaa
open Go.RowKit Go.BigFrame

def SumOk (xs : List Int) : Prop := ∀ k : Nat, -4000000000000000000 ≤ (xs.take k).sum ∧ (xs.take k).sum ≤ 4000000000000000000
theorem takeSum_snoc {xs : List Int} {k : Nat} {x : Int} (hx : xs[k]? = some x) : (xs.take (k + 1)).sum = (xs.take k).sum + x := by
  rw [take_succ_snoc hx]; simp
theorem sumOk_of {lo hi : Int} (h0 : lo ≤ 0) (h1 : 0 ≤ hi) {n : Nat} : ∀ (xs : List Int), xs.length ≤ n → (∀ x ∈ xs, lo ≤ x ∧ x ≤ hi) → lo * (n : Int) ≤ xs.sum ∧ xs.sum ≤ hi * (n : Int)
  | [], _, _ => by
    simp only [List.sum_nil]
    exact ⟨by have := Int.mul_nonneg (show 0 ≤ -lo by omega) (show (0 : Int) ≤ n by omega); rw [Int.neg_mul] at this; omega, Int.mul_nonneg h1 (by omega)⟩
  | x :: r, hl, h => by
    cases n with
    | zero => simp at hl
    | succ n =>
      obtain ⟨h2, h3⟩ := sumOk_of h0 h1 (n := n) r (by simpa using hl) fun y hy => h y (by simp [hy])
      have h4 := h x (by simp)
      simp only [List.sum_cons]
      have e1 : lo * ((n + 1 : Nat) : Int) = lo * (n : Int) + lo := by rw [Int.natCast_add, Int.mul_add]; simp
      have e2 : hi * ((n + 1 : Nat) : Int) = hi * (n : Int) + hi := by rw [Int.natCast_add, Int.mul_add]; simp
      omega
theorem SumOk.of {lo hi : Int} {xs : List Int} {n : Nat} (h0 : lo ≤ 0) (h1 : 0 ≤ hi) (hl : xs.length ≤ n) (h : ∀ x ∈ xs, lo ≤ x ∧ x ≤ hi) (hb : -4000000000000000000 ≤ lo * (n : Int) ∧ hi * (n : Int) ≤ 4000000000000000000) : SumOk xs := fun k => by
  have := sumOk_of h0 h1 (n := n) (xs.take k) (by simp; omega) fun x hx => h x (List.mem_of_mem_take hx)
  omega

end Go.Proofs.Ytlbllonpodckgaa
