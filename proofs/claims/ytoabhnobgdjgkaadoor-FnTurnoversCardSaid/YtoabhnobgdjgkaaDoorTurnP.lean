/- Plain laws of ledgers: turnovers as differences of balances; all balances add up to 0; a reversed entry takes its effect back. -/
import Derived.Test.YtoabhnobgdjgkaaDoorLedgP
namespace Go.Proofs.YtoabhnobgdjgkaaDoor

theorem amt_split {x : Entry} (hx : 0 ≤ x.month) {f t : Int} (_hf : 1 ≤ f) (hft : f ≤ t) (a : Int) : dAmt a 0 (t - 1) x = dAmt a 0 (f - 1) x + dAmt a f (t - 1) x ∧ cAmt a 0 (t - 1) x = cAmt a 0 (f - 1) x + cAmt a f (t - 1) x := by
  simp only [dAmt, cAmt, inR_true]
  constructor
  · repeat' split
    all_goals omega
  · repeat' split
    all_goals omega
theorem sum_split (f t : Int) (hf : 1 ≤ f) (hft : f ≤ t) (a : Int) : ∀ (xs : List Entry), (∀ x ∈ xs, entryB x = true) →
    dSum xs a 0 (t - 1) = dSum xs a 0 (f - 1) + dSum xs a f (t - 1) ∧ cSum xs a 0 (t - 1) = cSum xs a 0 (f - 1) + cSum xs a f (t - 1)
  | [], _ => by simp [dSum, cSum]
  | x :: r, h => by
    obtain ⟨h1, h2⟩ := sum_split f t hf hft a r fun y hy => h y (by simp [hy])
    obtain ⟨h3, h4⟩ := amt_split (entry_facts (h x (by simp))).1.1 hf hft a
    simp only [dSum, cSum, List.map_cons, List.sum_cons] at h1 h2 ⊢
    omega
theorem turn_diff {xs : List Entry} (h : ∀ x ∈ xs, entryB x = true) {a f t : Int} (hf : 1 ≤ f) (hft : f ≤ t) : balP xs a (t - 1) - balP xs a (f - 1) = dSum xs a f (t - 1) - cSum xs a f (t - 1) := by
  obtain ⟨h1, h2⟩ := sum_split f t hf hft a xs h
  unfold balP
  omega
/-! ### all balances add up to 0 -/
theorem balP_nil (a u : Int) : balP [] a u = 0 := by simp [balP, dSum, cSum]
theorem balP_cons (x : Entry) (r : List Entry) (a u : Int) : balP (x :: r) a u = (dAmt a 0 u x - cAmt a 0 u x) + balP r a u := by
  simp only [balP, dSum, cSum, List.map_cons, List.sum_cons]; omega
theorem balP_snoc (x : Entry) (xs : List Entry) (a u : Int) : balP (xs ++ [x]) a u = balP xs a u + (dAmt a 0 u x - cAmt a 0 u x) := by
  simp only [balP, dSum, cSum, List.map_append, List.sum_append, List.map_cons, List.sum_cons, List.map_nil, List.sum_nil]; omega
theorem one_zero {x : Entry} (h : entryB x = true) : ((List.range 10).map (fun a : Nat => dAmt (a : Int) 0 36000 x - cAmt (a : Int) 0 36000 x)).sum = 0 := by
  obtain ⟨hm, ⟨d0, d1⟩, ⟨c0, c1⟩, hne, _⟩ := entry_facts h
  have hin : inR x.month 0 36000 = true := inR_true.2 (by omega)
  have hd : ∀ a : Nat, dAmt (a : Int) 0 36000 x = if x.debit = (a : Int) then x.amount else 0 := fun a => by simp [dAmt, hin]
  have hc : ∀ a : Nat, cAmt (a : Int) 0 36000 x = if x.credit = (a : Int) then x.amount else 0 := fun a => by simp [cAmt, hin]
  simp only [hd, hc, show (10 : Nat) = 0 + 1 + 1 + 1 + 1 + 1 + 1 + 1 + 1 + 1 + 1 from rfl, List.range_succ, List.range_zero, List.map_append, List.sum_append, List.map_cons, List.map_nil, List.sum_cons, List.sum_nil]
  obtain ⟨d, hd'⟩ := Int.eq_ofNat_of_zero_le d0
  obtain ⟨c, hc'⟩ := Int.eq_ofNat_of_zero_le c0
  rw [hd', hc']
  have h1 : d < 10 := by omega
  have h2 : c < 10 := by omega
  rcases (show d = 0 ∨ d = 1 ∨ d = 2 ∨ d = 3 ∨ d = 4 ∨ d = 5 ∨ d = 6 ∨ d = 7 ∨ d = 8 ∨ d = 9 by omega) with rfl | rfl | rfl | rfl | rfl | rfl | rfl | rfl | rfl | rfl <;>
  rcases (show c = 0 ∨ c = 1 ∨ c = 2 ∨ c = 3 ∨ c = 4 ∨ c = 5 ∨ c = 6 ∨ c = 7 ∨ c = 8 ∨ c = 9 by omega) with rfl | rfl | rfl | rfl | rfl | rfl | rfl | rfl | rfl | rfl <;> simp <;> omega
theorem sum_map_add {α : Type} (f g : α → Int) : ∀ l : List α, (l.map (fun a => f a + g a)).sum = (l.map f).sum + (l.map g).sum
  | [] => by simp
  | a :: l => by simp only [List.map_cons, List.sum_cons, sum_map_add f g l]; omega
theorem trial_zero : ∀ (xs : List Entry), (∀ x ∈ xs, entryB x = true) → ((List.range 10).map (fun a : Nat => balP xs (a : Int) 36000)).sum = 0
  | [], _ => by simp only [balP_nil]; rfl
  | x :: r, h => by
    simp only [balP_cons]
    rw [sum_map_add, one_zero (h x (by simp)), trial_zero r fun y hy => h y (by simp [hy])]
    rfl
theorem trial_get {xs : List Entry} (h : ledgerB xs = true) {a : Nat} (ha : a < 10) : (trialP xs).1[a]? = some (balP xs (a : Int) 36000) := by
  unfold trialP; rw [if_pos h]
  simp [ha]
end Go.Proofs.YtoabhnobgdjgkaaDoor
