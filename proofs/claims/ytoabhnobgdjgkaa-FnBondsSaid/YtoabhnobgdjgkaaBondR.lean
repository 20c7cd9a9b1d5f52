/- What the law on bonds asks, in one place. -/
import Derived.Test.YtoabhnobgdjgkaaBondQ
namespace Go.Proofs.Ytoabhnobgdjgkaa

theorem flowL_bound {xs : List Bond} (h : bondsB xs = true) : ∀ v ∈ flowL xs, 0 ≤ v ∧ v ≤ 36000000000 := by
  intro v hv
  obtain ⟨k, _, rfl⟩ := List.mem_map.1 hv
  exact flow_bound30 k (bonds_len h) (bonds_bond h)
theorem flowL_len (xs : List Bond) : (flowL xs).length = 40 := by simp [flowL]
theorem kept_good {xs : List Bond} {ys : List Int} {cash : Int} (h : (keptMoneyP xs ys cash).2 = 0) :
    (keptMoneyP xs ys cash).1 = keptL xs ys cash ∧ flowP xs = (flowL xs, 0) ∧ ys.length ≤ 40 ∧ (∀ y ∈ ys, 0 ≤ y ∧ y ≤ 1000000000) ∧ (0 ≤ cash ∧ cash ≤ 1000000000) ∧ ∀ v ∈ flowL xs, 0 ≤ v ∧ v ≤ 36000000000 := by
  have hc : needsCode xs ys cash = 0 := by
    unfold keptMoneyP at h; split at h
    · assumption
    · exact h
  obtain ⟨hb, ⟨hl, hy⟩, hcash⟩ := needs_ok hc
  refine ⟨by unfold keptMoneyP; rw [if_pos hc], by unfold flowP; rw [if_pos hb], hl, hy, hcash, flowL_bound hb⟩
theorem keptL_len (xs : List Bond) (ys : List Int) (cash : Int) : (keptL xs ys cash).length = ys.length := by simp [keptL, keptTo]
theorem market_good {xs : List Bond} {r : Int} (h : (marketP xs r).2 = 0) :
    flowP xs = (flowL xs, 0) ∧ marketP xs 0 = ((flowL xs).sum, 0) ∧ (marketP xs r).1 ≤ (flowL xs).sum ∧ ∀ v ∈ flowL xs, 0 ≤ v ∧ v ≤ 36000000000 := by
  have hc : bondsCode xs r = 0 := by
    unfold marketP at h; split at h
    · assumption
    · exact h
  obtain ⟨hb, hr0, hr1⟩ := bonds_ok hc
  have hc0 : bondsCode xs 0 = 0 := by unfold bondsCode; rw [if_pos hb, if_pos (by decide)]
  refine ⟨by unfold flowP; rw [if_pos hb], by unfold marketP; rw [if_pos hc0, pv_zero], ?_, flowL_bound hb⟩
  unfold marketP; rw [if_pos hc]
  exact pv_le (bonds_len hb) (bonds_bond hb) hr0
theorem mean_bound {xs : List Bond} {r : Int} (h : (meanTermP xs r).2.2 = 0) : (meanTermP xs r).2.1 ≤ (meanTermP xs r).1 ∧ (meanTermP xs r).1 ≤ 40 * (meanTermP xs r).2.1 ∧ (0 ≤ (meanTermP xs r).2.1 ∧ (meanTermP xs r).2.1 ≤ 1440000000000) := by
  have h1 := mean_between (xs := xs) (rate := r) (a := (meanTermP xs r).1) (b := (meanTermP xs r).2.1) (by rw [← h])
  refine ⟨h1.1, h1.2, ?_⟩
  unfold meanTermP at h ⊢
  split at h
  rotate_left
  · rename_i hn; exact absurd h hn
  rename_i hcode
  rw [if_pos hcode]
  obtain ⟨hb, hr0, hr1⟩ := bonds_ok hcode
  split at h
  · simp at h
  rename_i hne
  rw [if_neg hne]
  have hs := (pvL_sums (rate := r) (bonds_len hb) (bonds_bond hb) hr0).2
  simp only [lowP]
  have hg := gcdP_pos (a := wsum (pvL xs r) 40) (b := (pvL xs r).sum) (by omega)
  exact ⟨Int.ediv_nonneg hs.1 (by omega), Int.le_trans (Int.ediv_le_self _ hs.1) hs.2⟩
end Go.Proofs.Ytoabhnobgdjgkaa
