/- Plain laws of booking and of reversing an entry. -/
import Derived.Test.YtoabhnobgdjgkaaBook2
import Derived.Test.YtoabhnobgdjgkaaTurnP
namespace Go.Proofs.Ytoabhnobgdjgkaa

theorem okAt_app {xs : List Entry} {e : Entry} {i : Nat} (hi : i < xs.length) : okAt (xs ++ [e]) i = okAt xs i := by
  unfold okAt monthAt
  rw [List.getElem?_append_left hi, List.getElem?_append_left (show i - 1 < xs.length by omega)]
theorem ledger_app {xs : List Entry} {e : Entry} (h : ledgerB xs = true) (he : entryB e = true) (hl : lateB xs e = false) (hn : xs.length ≠ 150) : ledgerB (xs ++ [e]) = true := by
  have h150 := ledger_len h
  simp only [ledgerB, Bool.and_eq_true, decide_eq_true_eq, List.all_eq_true, List.mem_range]
  refine ⟨by simp; omega, fun i hi => ?_⟩
  rcases Nat.lt_or_ge i xs.length with hlt | hge
  · rw [okAt_app hlt]; exact ledger_ok h hlt
  · have hie : i = xs.length := by simp at hi; omega
    subst hie
    refine okAt_yes (x := e) (by simp) he ?_
    rcases Nat.eq_zero_or_pos xs.length with h0 | h0
    · exact .inl h0
    · right
      have e1 : monthAt (xs ++ [e]) (xs.length - 1) = monthAt xs (xs.length - 1) := by
        unfold monthAt; rw [List.getElem?_append_left (by omega)]
      rw [e1]
      simp only [lateB, h0, decide_true, Bool.true_and, decide_eq_false_iff_not] at hl
      omega
theorem book_good {xs : List Entry} {e : Entry} (h : (bookP xs e).2 = 0) : ledgerB xs = true ∧ (bookP xs e).1 = xs ++ [e] ∧ ledgerB (xs ++ [e]) = true := by
  unfold bookP addP at h ⊢
  by_cases h1 : ledgerB xs = true
  · rw [if_pos h1] at h ⊢
    by_cases h2 : entryB e = true
    · rw [if_pos h2] at h ⊢
      by_cases h3 : lateB xs e = true
      · rw [if_pos h3] at h; simp at h
      · rw [if_neg h3] at h ⊢
        by_cases h4 : xs.length = 150
        · rw [if_pos h4] at h; simp at h
        · rw [if_neg h4]
          exact ⟨h1, rfl, ledger_app h1 h2 (by simpa using h3) h4⟩
    · rw [if_neg h2] at h; simp at h
  · rw [if_neg h1] at h; simp at h
theorem reverse_good {xs : List Entry} {i m : Int} (h : (reverseP xs i m).2 = 0) : ∃ (k : Nat) (x : Entry), i = (k : Int) ∧ xs[k]? = some x ∧ ledgerB xs = true ∧ (reverseP xs i m).1 = xs ++ [turnE x m] ∧ ledgerB (xs ++ [turnE x m]) = true := by
  unfold reverseP at h ⊢
  by_cases h1 : ledgerB xs = true
  · rw [if_pos h1] at h ⊢
    by_cases h2 : inR i 0 ((xs.length : Int) - 1) = true
    · rw [if_pos h2] at h ⊢
      obtain ⟨i0, i1⟩ := inR_true.1 h2
      obtain ⟨k, rfl⟩ := Int.eq_ofNat_of_zero_le i0
      obtain ⟨x, hx⟩ := get_of_lt (xs := xs) (k := k) (by omega)
      have e1 : xs[(k : Int).toNat]? = some x := by simpa using hx
      rw [e1] at h ⊢
      obtain ⟨_, h5, h6⟩ := book_good h
      exact ⟨k, x, rfl, hx, h1, h5, h6⟩
    · rw [if_neg h2] at h; simp at h
  · rw [if_neg h1] at h; simp at h
theorem reverse_bal {xs : List Entry} {x : Entry} {m : Int} (hx : entryB x = true) (hm : entryB (turnE x m) = true) (a : Int) :
    balP (xs ++ [turnE x m]) a 36000 - balP xs a 36000 = if x.credit = a then x.amount else if x.debit = a then -x.amount else 0 := by
  rw [balP_snoc]
  obtain ⟨_, _, _, hne, _⟩ := entry_facts hx
  have hmm := (entry_facts hm).1
  have hin : inR (turnE x m).month 0 36000 = true := inR_true.2 (by omega)
  have e1 : (turnE x m).debit = x.credit := rfl
  have e2 : (turnE x m).credit = x.debit := rfl
  have e3 : (turnE x m).amount = x.amount := rfl
  simp only [dAmt, cAmt, hin, e1, e2, e3, true_and]
  repeat' split
  all_goals omega
theorem bal_bound {xs : List Entry} (h : ledgerB xs = true) (a u : Int) : -150000000000 ≤ balP xs a u ∧ balP xs a u ≤ 150000000000 := by
  have h1 := dSum_bound a 0 u (fun x hx => ledger_entry h hx) (ledger_len h)
  have h2 := cSum_bound a 0 u (fun x hx => ledger_entry h hx) (ledger_len h)
  unfold balP; omega
theorem trial_yes {xs : List Entry} (h : ledgerB xs = true) : (trialP xs).2 = 0 ∧ (trialP xs).1.length = 10 ∧ (trialP xs).1.sum = 0 ∧ ∀ v ∈ (trialP xs).1, -150000000000 ≤ v ∧ v ≤ 150000000000 := by
  unfold trialP; rw [if_pos h]
  refine ⟨rfl, by simp, trial_zero xs fun x hx => ledger_entry h hx, fun v hv => ?_⟩
  obtain ⟨a, _, rfl⟩ := List.mem_map.1 hv
  exact bal_bound h _ _
theorem trial_no {xs : List Entry} (h : ledgerB xs = false) : trialP xs = ([], 1) := by
  unfold trialP; rw [if_neg (by simp [h])]
theorem trial_code (xs : List Entry) : ((trialP xs).2 == 0) = ledgerB xs := by
  cases h : ledgerB xs
  · rw [trial_no h]; rfl
  · rw [(trial_yes h).1]; rfl
end Go.Proofs.Ytoabhnobgdjgkaa
