/- A ladder of bonds: the plain function and its laws. -/
import Derived.Test.YtlbllonpodckgaaFlowP
import Derived.Test.YtlbllonpodckgaaKept
namespace Go.Proofs.Ytlbllonpodckgaa
open Go.RowKit Go.BigFrame

/-- the least nominal that pays a with its own coupon c -/
def nomP (a c : Int) : Int := max 0 ((1000 * a + 999 + c) / (1000 + c))
theorem nom_le {a c n : Int} (hc : 0 ≤ c ∧ c ≤ 200) (hn : 0 ≤ n) : nomP a c ≤ n ↔ a ≤ n + n * c / 1000 := by
  have h1 : a ≤ n + n * c / 1000 ↔ 1000 * a ≤ 1000 * n + n * c := by omega
  have h2 : (1000 * a + 999 + c) / (1000 + c) ≤ n ↔ 1000 * a ≤ 1000 * n + n * c := by
    have h3 := Int.ediv_lt_iff_lt_mul (a := 1000 * a + 999 + c) (b := n + 1) (show 0 < 1000 + c by omega)
    have e : (n + 1) * (1000 + c) = 1000 * n + n * c + 1000 + c := by rw [Int.add_mul, Int.mul_add]; omega
    rw [e] at h3
    constructor
    · intro h
      have := h3.1 (by omega)
      omega
    · intro h
      have := h3.2 (by omega)
      omega
  rw [h1, ← h2]
  unfold nomP
  omega
theorem nom_nonneg (a c : Int) : 0 ≤ nomP a c := by unfold nomP; omega
theorem nom_bound {a c : Int} (hc : 0 ≤ c ∧ c ≤ 200) (ha : a ≤ 1000000000) : nomP a c ≤ 1000000000 := by
  rw [nom_le hc (by omega)]
  have := Int.mul_nonneg (show (0 : Int) ≤ 1000000000 by omega) hc.1
  omega
theorem nom_ge {a c : Int} (hc : 0 ≤ c ∧ c ≤ 200) : a ≤ nomP a c + nomP a c * c / 1000 := (nom_le hc (nom_nonneg a c)).1 (Int.le_refl _)
/-- where the reference begins to look -/
theorem nom_start {a c : Int} (hc : 0 ≤ c ∧ c ≤ 200) : max 0 ((a * 1000).tdiv (1000 + c) - 2) ≤ nomP a c := by
  have h0 := nom_nonneg a c
  have h1 : (a * 1000).tdiv (1000 + c) - 1 ≤ (a * 1000) / (1000 + c) ∨ a < 0 := by
    rcases Int.lt_or_le a 0 with h | h
    · exact .inr h
    · rw [Int.tdiv_eq_ediv_of_nonneg (by omega)]; exact .inl (by omega)
  rcases Int.lt_or_le a 0 with h | h
  · have h2 : (a * 1000).tdiv (1000 + c) ≤ 0 := by
      obtain ⟨b, rfl⟩ : ∃ b, a = -b := ⟨-a, by omega⟩
      rw [Int.neg_mul, Int.neg_tdiv, Int.tdiv_eq_ediv_of_nonneg (by omega)]
      have := Int.ediv_nonneg (show 0 ≤ b * 1000 by omega) (show 0 ≤ 1000 + c by omega)
      omega
    omega
  · rw [Int.tdiv_eq_ediv_of_nonneg (by omega)]
    have h2 : (a * 1000) / (1000 + c) ≤ (1000 * a + 999 + c) / (1000 + c) := Int.ediv_le_ediv (by omega) (by omega)
    unfold nomP
    omega
/-- the ladder's bonds, and what they pay in coupons, after the last j needs -/
def ladS (c : Int) (ys : List Int) : Nat → List Bond × Int
  | 0 => ([], 0)
  | j + 1 =>
    if 0 < nomP (ys.getD (ys.length - 1 - j) 0 - (ladS c ys j).2) c then
      (⟨nomP (ys.getD (ys.length - 1 - j) 0 - (ladS c ys j).2) c, c, ((ys.length - 1 - j : Nat) : Int) + 1⟩ :: (ladS c ys j).1, (ladS c ys j).2 + nomP (ys.getD (ys.length - 1 - j) 0 - (ladS c ys j).2) c * c / 1000)
    else ladS c ys j
def ladderP (ys : List Int) (c : Int) : List Bond × Int := if needsB ys = true ∧ ys.length ≤ 30 ∧ inR c 0 200 = true then ((ladS c ys ys.length).1, 0) else ([], 2)
theorem need_bound {ys : List Int} (h : ∀ y ∈ ys, 0 ≤ y ∧ y ≤ 1000000000) (k : Nat) : 0 ≤ ys.getD k 0 ∧ ys.getD k 0 ≤ 1000000000 := by
  by_cases hk : k < ys.length
  · have : ys.getD k 0 = ys[k] := by simp [hk]
    rw [this]; exact h _ (List.getElem_mem hk)
  · have : ys.getD k 0 = 0 := by rw [List.getD_eq_getElem?_getD, List.getElem?_eq_none (by omega)]; rfl
    rw [this]; omega
theorem coupon_bound {n c : Int} (hc : 0 ≤ c ∧ c ≤ 200) (hn : 0 ≤ n ∧ n ≤ 1000000000) : (0 ≤ n * c ∧ n * c ≤ 200000000000) ∧ 0 ≤ n * c / 1000 ∧ n * c / 1000 ≤ 200000000 := by
  have h1 := Int.mul_nonneg hn.1 hc.1
  have h2 : n * c ≤ 1000000000 * 200 := Int.mul_le_mul hn.2 hc.2 hc.1 (by omega)
  exact ⟨⟨h1, by omega⟩, by omega, by omega⟩
theorem ladS_bound {c : Int} {ys : List Int} (hc : 0 ≤ c ∧ c ≤ 200) (h : ∀ y ∈ ys, 0 ≤ y ∧ y ≤ 1000000000) : ∀ j : Nat, (0 ≤ (ladS c ys j).2 ∧ (ladS c ys j).2 ≤ 200000000 * (j : Int)) ∧ (ladS c ys j).1.length ≤ j
  | 0 => by simp [ladS]
  | j + 1 => by
    obtain ⟨h1, h2⟩ := ladS_bound hc h j
    have h3 := need_bound h (ys.length - 1 - j)
    have h4 := nom_bound (a := ys.getD (ys.length - 1 - j) 0 - (ladS c ys j).2) hc (by omega)
    have h5 := coupon_bound hc ⟨nom_nonneg (ys.getD (ys.length - 1 - j) 0 - (ladS c ys j).2) c, h4⟩
    unfold ladS
    split
    · simp only [List.length_cons]; omega
    · exact ⟨by omega, by omega⟩
theorem buildLadder_small0 {n : Nat} (ys : List Int) (_hs : n ≤ 1048576) (_hl : ys.length = n) (_hf : ∀ y ∈ ys, In64 y) (c : Int) : (ladderP ys c).1.length ≤ 1048576 := by
  unfold ladderP
  split
  · rename_i h
    obtain ⟨h1, h2, h3⟩ := h
    simp only [needsB, Bool.and_eq_true, decide_eq_true_eq, allR, List.all_eq_true] at h1
    show (ladS c ys ys.length).1.length ≤ 1048576
    have := (ladS_bound (inR_true.1 h3) (fun y hy => inR_true.1 (h1.2 y hy)) ys.length).2
    omega
  · simp
end Go.Proofs.Ytlbllonpodckgaa
