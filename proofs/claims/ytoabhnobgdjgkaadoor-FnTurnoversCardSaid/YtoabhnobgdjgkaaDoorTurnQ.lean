/- What the law on turnovers asks, in one place. -/
import Derived.Test.YtoabhnobgdjgkaaDoorTurnP
namespace Go.Proofs.YtoabhnobgdjgkaaDoor
theorem turn_good {xs : List Entry} {a f t : Int} (h : (turnoverP xs a f t).2.2 = 0) :
    ledgerB xs = true ∧ inR a 0 9 = true ∧ (0 ≤ f ∧ f ≤ 35999) ∧ (0 ≤ t ∧ t ≤ 35999) ∧ turnoverP xs a f t = (dSum xs a f (t - 1), cSum xs a f (t - 1), 0) := by
  unfold turnoverP at h ⊢
  by_cases h1 : ledgerB xs = true
  · rw [if_pos h1] at h ⊢
    by_cases h2 : inR a 0 9 = true ∧ (inR f 0 35999 = true ∧ inR t 0 35999 = true)
    · rw [if_pos h2]
      exact ⟨h1, h2.1, inR_true.1 h2.2.1, inR_true.1 h2.2.2, rfl⟩
    · rw [if_neg h2] at h; simp at h
  · rw [if_neg h1] at h; simp at h
theorem account_good {xs : List Entry} {a u : Int} (h : ledgerB xs = true) (ha : inR a 0 9 = true) (hu : 0 ≤ u ∧ u ≤ 35999) : accountP xs a u = (balP xs a u, 0) := by
  unfold accountP; rw [if_pos h, if_pos ⟨ha, inR_true.2 hu⟩]
theorem bal_bound2 {xs : List Entry} (h : ledgerB xs = true) (a u : Int) : -150000000000 ≤ balP xs a u ∧ balP xs a u ≤ 150000000000 := by
  have h1 := dSum_bound a 0 u (fun x hx => ledger_entry h hx) (ledger_len h)
  have h2 := cSum_bound a 0 u (fun x hx => ledger_entry h hx) (ledger_len h)
  unfold balP; omega
end Go.Proofs.YtoabhnobgdjgkaaDoor
