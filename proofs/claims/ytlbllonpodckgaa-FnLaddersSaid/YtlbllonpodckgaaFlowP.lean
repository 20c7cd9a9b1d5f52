/- What bonds pay in each year: the plain function and its laws. -/
import Derived.Test.YtlbllonpodckgaaBonds
import Derived.Test.YtlbllonpodckgaaBase2
namespace Go.Proofs.Ytlbllonpodckgaa
open Go.RowKit Go.BigFrame

def payC (b : Bond) : Int := b.nominal * b.coupon / 1000
def pay (b : Bond) (i : Nat) : Int := (if (i : Int) < b.years then payC b else 0) + (if (i : Int) + 1 = b.years then b.nominal else 0)
def flowAt (xs : List Bond) (i : Nat) : Int := (xs.map fun b => pay b i).sum
def flowCells (f : Nat → Int) : Array Value := ((List.range 40).map fun i => Value.int .i64 (f i)).toArray
def flowL (xs : List Bond) : List Int := (List.range 40).map (flowAt xs)
def flowP (xs : List Bond) : List Int × Int := if bondsB xs then (flowL xs, 0) else ([], 1)

theorem bond_facts {b : Bond} (h : bondB b = true) : (1 ≤ b.nominal ∧ b.nominal ≤ 1000000000) ∧ (0 ≤ b.coupon ∧ b.coupon ≤ 200) ∧ (1 ≤ b.years ∧ b.years ≤ 40) := by
  simp only [bondB, Bool.and_eq_true, inR_true] at h
  exact ⟨h.1, h.2.1, h.2.2⟩
theorem bonds_len {xs : List Bond} (h : bondsB xs = true) : xs.length ≤ 30 := by
  simp only [bondsB, Bool.and_eq_true, decide_eq_true_eq] at h; exact h.1
theorem bonds_bond {xs : List Bond} (h : bondsB xs = true) : ∀ x ∈ xs, bondB x = true := by
  simp only [bondsB, Bool.and_eq_true, List.all_eq_true] at h; exact h.2
theorem mul_bound {a b : Int} (ha : 0 ≤ a ∧ a ≤ 1000000000) (hb : 0 ≤ b ∧ b ≤ 200) : 0 ≤ a * b ∧ a * b ≤ 200000000000 := by
  refine ⟨Int.mul_nonneg ha.1 hb.1, ?_⟩
  have h1 : a * b ≤ 1000000000 * b := Int.mul_le_mul_of_nonneg_right ha.2 hb.1
  omega
theorem payC_bound {b : Bond} (h : bondB b = true) : (0 ≤ b.nominal * b.coupon ∧ b.nominal * b.coupon ≤ 200000000000) ∧ 0 ≤ payC b ∧ payC b ≤ 200000000 := by
  obtain ⟨h1, h2, _⟩ := bond_facts h
  have hm := mul_bound ⟨by omega, h1.2⟩ h2
  unfold payC
  exact ⟨hm, by omega, by omega⟩
theorem pay_bound {b : Bond} (h : bondB b = true) (i : Nat) : 0 ≤ pay b i ∧ pay b i ≤ 1200000000 := by
  obtain ⟨_, h1, h2⟩ := payC_bound h
  obtain ⟨h3, _, _⟩ := bond_facts h
  unfold pay
  split <;> split <;> omega
theorem flow_bound : ∀ {xs : List Bond} (i : Nat), (∀ x ∈ xs, bondB x = true) → 0 ≤ flowAt xs i ∧ flowAt xs i ≤ 1200000000 * (xs.length : Int)
  | [], _, _ => by simp [flowAt]
  | x :: r, i, h => by
    have h1 := flow_bound (xs := r) i fun y hy => h y (by simp [hy])
    have h2 := pay_bound (h x (by simp)) i
    simp only [flowAt, List.map_cons, List.sum_cons, List.length_cons] at h1 ⊢
    omega
theorem flow_snoc {xs : List Bond} {k : Nat} {x : Bond} (hx : xs[k]? = some x) (i : Nat) : flowAt (xs.take (k + 1)) i = flowAt (xs.take k) i + pay x i := by
  rw [take_succ_snoc hx]; simp [flowAt]
theorem flowCells_size (f : Nat → Int) : (flowCells f).size = 40 := by simp [flowCells]
theorem flowCells_get (f : Nat → Int) {k : Nat} (hk : k < 40) : (flowCells f)[k]? = some (.int .i64 (f k)) := by
  simp [flowCells, hk]
theorem flowCells_set (f : Nat → Int) {k : Nat} (hk : k < 40) (v : Int) : (flowCells f).setIfInBounds k (.int .i64 v) = flowCells fun i => if i = k then v else f i := by
  apply Array.ext_getElem?
  intro i
  rw [Array.getElem?_setIfInBounds]
  by_cases e : k = i
  · subst e
    rw [if_pos rfl, if_pos (by rw [flowCells_size]; exact hk), flowCells_get _ hk, if_pos rfl]
  · rw [if_neg e]
    by_cases hi : i < 40
    · rw [flowCells_get _ hi, flowCells_get _ hi, if_neg (fun h => e h.symm)]
    · rw [Array.getElem?_eq_none (by rw [flowCells_size]; omega), Array.getElem?_eq_none (by rw [flowCells_size]; omega)]
theorem flowCells_congr {f g : Nat → Int} (h : ∀ i : Nat, i < 40 → f i = g i) : flowCells f = flowCells g := by
  unfold flowCells
  congr 1
  exact List.map_congr_left fun i hi => by rw [h i (by simpa using hi)]
theorem flowCells_rows (f : Nat → Int) : (flowCells f).toList = (intRows ((List.range 40).map f)).flatten := by
  rw [intRows_flat]; simp [flowCells]
theorem flowOf_small0 {n : Nat} (xs : List Bond) (_hs : n ≤ 1048576) (_hl : xs.length = n) (_hf : ∀ x ∈ xs, x.fits) : (flowP xs).1.length ≤ 1048576 := by
  unfold flowP; split <;> simp [flowL]
end Go.Proofs.Ytlbllonpodckgaa
