/- Life tables and their columns: plain functions and their laws. No program. -/
import Derived.Test.YtlbllonpodckgaaGreatDoorRate
namespace Go.Proofs.YtlbllonpodckgaaGreatDoor
open Go.RowKit Go.BigFrame

/-- the lives at an index, 0 behind the table's end -/
def lv (xs : List Int) (k : Nat) : Int := xs.getD k 0
theorem lv_get {xs : List Int} {k : Nat} {x : Int} (h : xs[k]? = some x) : lv xs k = x := by simp [lv, h]
theorem lv_some {xs : List Int} {k : Nat} (h : k < xs.length) : xs[k]? = some (lv xs k) := by simp [lv, h]
theorem lv_past {xs : List Int} {k : Nat} (h : xs.length ≤ k) : lv xs k = 0 := by
  unfold lv; rw [List.getD_eq_getElem?_getD, List.getElem?_eq_none h]; rfl
/-- a row of the table that is as it must be -/
def rowB (xs : List Int) (i : Nat) : Bool := decide (1 ≤ lv xs i) && (decide (i = 0) || decide (lv xs i ≤ lv xs (i - 1)))
def headB (first : Int) (xs : List Int) : Bool := inR first 0 100 && (inR xs.length 2 120 && (decide (lv xs 0 ≤ 1000000) && (decide (lv xs (xs.length - 1) = 0) && decide (first + (xs.length : Int) - 1 ≤ 150))))
def tableB (first : Int) (xs : List Int) : Bool := headB first xs && (List.range (xs.length - 1)).all (rowB xs)
structure TabOk (first : Int) (xs : List Int) : Prop where
  first0 : 0 ≤ first
  first1 : first ≤ 100
  len0 : 2 ≤ xs.length
  len1 : xs.length ≤ 120
  top : first + (xs.length : Int) - 1 ≤ 150
  pos : ∀ k : Nat, k + 1 < xs.length → 1 ≤ lv xs k
  anti : ∀ k : Nat, lv xs (k + 1) ≤ lv xs k
  nonneg : ∀ k : Nat, 0 ≤ lv xs k
  most : ∀ k : Nat, lv xs k ≤ 1000000
  zero : ∀ k : Nat, xs.length ≤ k + 1 → lv xs k = 0
theorem table_ok {first : Int} {xs : List Int} (h : tableB first xs = true) : TabOk first xs := by
  simp only [tableB, headB, Bool.and_eq_true, inR_true, decide_eq_true_eq, List.all_eq_true, List.mem_range, rowB, Bool.or_eq_true] at h
  obtain ⟨⟨⟨f0, f1⟩, ⟨l0, l1⟩, hm, hz, ht⟩, hr⟩ := h
  have pos : ∀ k : Nat, k + 1 < xs.length → 1 ≤ lv xs k := fun k hk => (hr k (by omega)).1
  have zero : ∀ k : Nat, xs.length ≤ k + 1 → lv xs k = 0 := fun k hk => by
    by_cases e : k + 1 = xs.length
    · rw [show k = xs.length - 1 by omega]; exact hz
    · exact lv_past (by omega)
  have nonneg : ∀ k : Nat, 0 ≤ lv xs k := fun k => by
    by_cases hk : k + 1 < xs.length
    · have := pos k hk; omega
    · rw [zero k (by omega)]; omega
  have anti : ∀ k : Nat, lv xs (k + 1) ≤ lv xs k := fun k => by
    by_cases hk : k + 2 < xs.length
    · rcases (hr (k + 1) (by omega)).2 with h | h
      · omega
      · exact h
    · rw [zero (k + 1) (by omega)]; exact nonneg k
  have most : ∀ k : Nat, lv xs k ≤ 1000000 := fun k => by
    induction k with
    | zero => exact hm
    | succ k ih => have := anti k; omega
  exact ⟨f0, f1, by omega, by omega, ht, pos, anti, nonneg, most, zero⟩

theorem disc_anti {rate : Int} (hr : 0 ≤ rate) (k : Nat) : disc rate (k + 1) ≤ disc rate k := by
  have h1 := (disc_bound hr k).1
  have h3 : disc rate k * 1000 / (1000 + rate) ≤ disc rate k * (1000 + rate) / (1000 + rate) := Int.ediv_le_ediv (by omega) (Int.mul_le_mul_of_nonneg_left (by omega) h1)
  rw [Int.mul_ediv_cancel _ (by omega)] at h3
  exact h3

/-- f k + f (k + 1) + .. : m of them -/
def sumF (f : Nat → Int) (k : Nat) : Nat → Int
  | 0 => 0
  | m + 1 => f k + sumF f (k + 1) m
theorem sumF_snoc (f : Nat → Int) : ∀ (k m : Nat), sumF f k (m + 1) = sumF f k m + f (k + m)
  | k, 0 => by simp [sumF]
  | k, m + 1 => by
    have := sumF_snoc f (k + 1) m
    show f k + sumF f (k + 1) (m + 1) = f k + sumF f (k + 1) m + f (k + (m + 1))
    rw [this, show k + 1 + m = k + (m + 1) by omega]; omega
theorem sumF_zero {f : Nat → Int} : ∀ (k m : Nat), (∀ j, k ≤ j → f j = 0) → sumF f k m = 0
  | _, 0, _ => rfl
  | k, m + 1, h => by
    show f k + sumF f (k + 1) m = 0
    rw [h k (Nat.le_refl _), sumF_zero (k + 1) m fun j hj => h j (by omega)]; rfl
/-- the sum to the table's end, and any longer one -/
theorem sumF_end {f : Nat → Int} {e : Nat} (hz : ∀ j, e ≤ j → f j = 0) : ∀ (k m : Nat), e ≤ k + m → sumF f k m = sumF f k (e - k)
  | k, 0, h => by rw [show e - k = 0 by omega]
  | k, m + 1, h => by
    by_cases hk : e ≤ k
    · rw [sumF_zero k _ fun j hj => hz j (by omega), show e - k = 0 by omega]; rfl
    · rw [show e - k = (e - (k + 1)) + 1 by omega]
      show f k + sumF f (k + 1) m = f k + sumF f (k + 1) (e - (k + 1))
      rw [sumF_end hz (k + 1) m (by omega)]
theorem sumF_split (f : Nat → Int) : ∀ (k m p : Nat), sumF f k (m + p) = sumF f k m + sumF f (k + m) p
  | k, 0, p => by simp [sumF]
  | k, m + 1, p => by
    rw [show m + 1 + p = (m + p) + 1 by omega]
    show f k + sumF f (k + 1) (m + p) = f k + sumF f (k + 1) m + sumF f (k + (m + 1)) p
    rw [sumF_split f (k + 1) m p, show k + 1 + m = k + (m + 1) by omega]; omega

def dC (xs : List Int) (rate : Int) (k : Nat) : Int := lv xs k * disc rate k
def cC (xs : List Int) (rate : Int) (k : Nat) : Int := (lv xs k - lv xs (k + 1)) * disc rate (k + 1)
def nC (xs : List Int) (rate : Int) (k : Nat) : Int := sumF (dC xs rate) k (xs.length - 1 - k)
def mC (xs : List Int) (rate : Int) (k : Nat) : Int := sumF (cC xs rate) k (xs.length - 1 - k)
section
variable {first rate : Int} {xs : List Int} (T : TabOk first xs) (hr : 0 ≤ rate)
include T
theorem dC_zero (k : Nat) (h : xs.length - 1 ≤ k) : dC xs rate k = 0 := by unfold dC; rw [T.zero k (by omega), Int.zero_mul]
theorem cC_zero (k : Nat) (h : xs.length - 1 ≤ k) : cC xs rate k = 0 := by unfold cC; rw [T.zero k (by omega), T.zero (k + 1) (by omega)]; simp
theorem nC_any (k m : Nat) (h : xs.length - 1 ≤ k + m) : sumF (dC xs rate) k m = nC xs rate k := sumF_end (dC_zero T) k m h
theorem mC_any (k m : Nat) (h : xs.length - 1 ≤ k + m) : sumF (cC xs rate) k m = mC xs rate k := sumF_end (cC_zero T) k m h
theorem nC_step (k : Nat) : nC xs rate k = dC xs rate k + nC xs rate (k + 1) := by
  rw [← nC_any T k (xs.length - 1 - (k + 1) + 1) (by omega)]; rfl
theorem mC_step (k : Nat) : mC xs rate k = cC xs rate k + mC xs rate (k + 1) := by
  rw [← mC_any T k (xs.length - 1 - (k + 1) + 1) (by omega)]; rfl
theorem nC_part (k m : Nat) : nC xs rate k - nC xs rate (k + m) = sumF (dC xs rate) k m := by
  have := sumF_split (dC xs rate) k m (xs.length - 1 - (k + m))
  rw [nC_any T k (m + (xs.length - 1 - (k + m))) (by omega), nC_any T (k + m) (xs.length - 1 - (k + m)) (by omega)] at this
  omega
theorem mC_part (k m : Nat) : mC xs rate k - mC xs rate (k + m) = sumF (cC xs rate) k m := by
  have := sumF_split (cC xs rate) k m (xs.length - 1 - (k + m))
  rw [mC_any T k (m + (xs.length - 1 - (k + m))) (by omega), mC_any T (k + m) (xs.length - 1 - (k + m)) (by omega)] at this
  omega
theorem nC_zero (k : Nat) (h : xs.length - 1 ≤ k) : nC xs rate k = 0 := sumF_zero k _ fun j hj => dC_zero T j (by omega)
theorem mC_zero (k : Nat) (h : xs.length - 1 ≤ k) : mC xs rate k = 0 := sumF_zero k _ fun j hj => cC_zero T j (by omega)
include hr
theorem dC_bound (k : Nat) : 0 ≤ dC xs rate k ∧ dC xs rate k ≤ 1000000000000000 := by
  have h1 := disc_bound hr k
  unfold dC
  exact ⟨Int.mul_nonneg (T.nonneg k) h1.1, by have := Int.mul_le_mul (T.most k) h1.2 h1.1 (by omega); omega⟩
theorem cC_bound (k : Nat) : 0 ≤ cC xs rate k ∧ cC xs rate k ≤ dC xs rate k - dC xs rate (k + 1) := by
  have h1 := disc_bound hr (k + 1)
  have h2 := disc_anti hr k
  have h3 := T.anti k
  unfold cC dC
  refine ⟨Int.mul_nonneg (by omega) h1.1, ?_⟩
  rw [Int.sub_mul]
  have := Int.mul_le_mul_of_nonneg_left h2 (T.nonneg k)
  omega
theorem dC_anti (k : Nat) : dC xs rate (k + 1) ≤ dC xs rate k := by have := cC_bound T hr k; omega
theorem dC_anti_add (k : Nat) : ∀ m : Nat, dC xs rate (k + m) ≤ dC xs rate k
  | 0 => Int.le_refl _
  | m + 1 => by have := dC_anti T hr (k + m); have := dC_anti_add k m; rw [← Nat.add_assoc]; omega
theorem cSumF_bound : ∀ (k m : Nat), 0 ≤ sumF (cC xs rate) k m ∧ sumF (cC xs rate) k m ≤ dC xs rate k - dC xs rate (k + m)
  | k, 0 => by simp [sumF]
  | k, m + 1 => by
    have h1 := cSumF_bound (k + 1) m
    have h2 := cC_bound T hr k
    rw [show k + 1 + m = k + (m + 1) by omega] at h1
    show 0 ≤ cC xs rate k + sumF (cC xs rate) (k + 1) m ∧ cC xs rate k + sumF (cC xs rate) (k + 1) m ≤ _
    omega
theorem dSumF_bound : ∀ (k m : Nat), 0 ≤ sumF (dC xs rate) k m ∧ sumF (dC xs rate) k m ≤ (m : Int) * dC xs rate k
  | k, 0 => by simp [sumF]
  | k, m + 1 => by
    have h1 := dSumF_bound (k + 1) m
    have h2 := dC_bound T hr k
    have h3 : (m : Int) * dC xs rate (k + 1) ≤ (m : Int) * dC xs rate k := Int.mul_le_mul_of_nonneg_left (dC_anti T hr k) (by omega)
    show 0 ≤ dC xs rate k + sumF (dC xs rate) (k + 1) m ∧ dC xs rate k + sumF (dC xs rate) (k + 1) m ≤ _
    rw [Int.natCast_add, Int.add_mul]
    omega
theorem mC_bound (k : Nat) : 0 ≤ mC xs rate k ∧ mC xs rate k ≤ dC xs rate k := by
  have h1 := cSumF_bound T hr k (xs.length - 1 - k)
  have h2 := dC_bound T hr (k + (xs.length - 1 - k))
  unfold mC
  omega
theorem nC_bound (k : Nat) : 0 ≤ nC xs rate k ∧ nC xs rate k ≤ 120 * dC xs rate k := by
  have h1 := dSumF_bound T hr k (xs.length - 1 - k)
  have h2 := dC_bound T hr k
  have h3 : ((xs.length - 1 - k : Nat) : Int) * dC xs rate k ≤ 120 * dC xs rate k := Int.mul_le_mul_of_nonneg_right (by have := T.len1; omega) h2.1
  unfold nC
  omega
end

/-- the numerator of the value of an assurance, and the denominator of a level premium -/
def topF (xs : List Int) (rate kind : Int) (k m : Nat) : Int :=
  if kind = 0 then mC xs rate k else if kind = 1 then mC xs rate k - mC xs rate (k + m) else if kind = 2 then mC xs rate k - mC xs rate (k + m) + dC xs rate (k + m) else dC xs rate (k + m)
def baseF (xs : List Int) (rate kind : Int) (k m : Nat) : Int := if kind = 0 then nC xs rate k else nC xs rate k - nC xs rate (k + m)
section
variable {first rate : Int} {xs : List Int} (T : TabOk first xs) (hr : 0 ≤ rate)
include T hr
theorem topF_bound (kind : Int) (k m : Nat) : 0 ≤ topF xs rate kind k m ∧ topF xs rate kind k m ≤ dC xs rate k := by
  have h1 := mC_bound T hr k
  have h2 := cSumF_bound T hr k m
  have h3 := mC_part (rate := rate) T k m
  have h4 := dC_bound T hr (k + m)
  have h5 := dC_anti_add T hr k m
  unfold topF
  split
  · exact h1
  · split
    · omega
    · split
      · omega
      · omega
theorem baseF_bound (kind : Int) (k m : Nat) (hm : m ≤ 120) : 0 ≤ baseF xs rate kind k m ∧ baseF xs rate kind k m ≤ 120 * dC xs rate k := by
  have h1 := nC_bound T hr k
  have h2 := dSumF_bound T hr k m
  have h3 := nC_part (rate := rate) T k m
  have h4 := dC_bound T hr k
  have h5 : (m : Int) * dC xs rate k ≤ 120 * dC xs rate k := Int.mul_le_mul_of_nonneg_right (by omega) h4.1
  unfold baseF
  split
  · exact h1
  · omega
theorem baseF_pos (kind : Int) (k m : Nat) (h : kind = 0 ∨ 1 ≤ m) : dC xs rate k ≤ baseF xs rate kind k m := by
  have h1 := nC_step (rate := rate) T k
  have h2 := nC_bound T hr (k + 1)
  unfold baseF
  split
  · omega
  · have hm : 1 ≤ m := by rcases h with h | h; contradiction; exact h
    have h3 := nC_part (rate := rate) T k m
    obtain ⟨p, rfl⟩ : ∃ p, m = p + 1 := ⟨m - 1, by omega⟩
    have h4 := dSumF_bound T hr (k + 1) p
    have h5 : sumF (dC xs rate) k (p + 1) = dC xs rate k + sumF (dC xs rate) (k + 1) p := rfl
    omega
end
end Go.Proofs.YtlbllonpodckgaaGreatDoor
