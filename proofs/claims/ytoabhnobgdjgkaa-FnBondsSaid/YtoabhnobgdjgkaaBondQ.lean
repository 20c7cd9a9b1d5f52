/- Plain laws of bonds: the last money is what came in and was not needed; without interest bonds are worth what they pay; interest makes them worth less; the mean term lies between 1 and 40 years. -/
import Derived.Test.YtoabhnobgdjgkaaBondMarket
import Derived.Test.YtoabhnobgdjgkaaKept2
namespace Go.Proofs.Ytoabhnobgdjgkaa

theorem cash_sum (f : Nat → Int) (ys : List Int) (c : Int) : ∀ k : Nat, k ≤ ys.length → cashAt f ys c k = c + ((List.range k).map f).sum - (ys.take k).sum
  | 0, _ => by simp [cashAt]
  | k + 1, hk => by
    obtain ⟨y, hy⟩ := get_of_lt (xs := ys) (k := k) (by omega)
    unfold cashAt
    rw [cash_sum f ys c k (by omega), List.range_succ, List.map_append, List.sum_append, sum_snoc hy]
    have : ys.getD k 0 = y := by simp [List.getD_eq_getElem?_getD, hy]
    rw [this]; simp; omega
theorem kept_last {xs : List Bond} {ys : List Int} {c z : Int} (hl : ys.length ≤ 40) {n : Nat} (hn : ys.length = n + 1) (hz : (keptL xs ys c)[n]? = some z) : z = c + ((flowL xs).take ys.length).sum - ys.sum := by
  have e : (keptL xs ys c)[n]? = some (cashAt (flowAt xs) ys c (n + 1)) := by simp [keptL, keptTo, hn]
  rw [e] at hz; injection hz with hz
  rw [← hz, cash_sum _ _ _ _ (by omega)]
  have e1 : ys.take (n + 1) = ys := List.take_of_length_le (by omega)
  have e2 : (flowL xs).take ys.length = (List.range (n + 1)).map (flowAt xs) := by
    rw [flowL, ← List.map_take, List.take_range, hn, Nat.min_eq_left (by omega)]
  rw [e1, e2]
theorem disc_zero : ∀ k : Nat, disc 0 k = 1000000000
  | 0 => rfl
  | k + 1 => by unfold disc; rw [disc_zero k]; rfl
theorem pv_zero (xs : List Bond) : pvL xs 0 = flowL xs := by
  simp only [pvL, pvTo, flowL]
  apply List.map_congr_left
  intro k _
  unfold pvAt
  rw [disc_zero]
  exact Int.mul_ediv_cancel _ (by decide)
theorem sum_le : ∀ (l : List Nat) (f g : Nat → Int), (∀ k, f k ≤ g k) → (l.map f).sum ≤ (l.map g).sum
  | [], _, _, _ => by simp
  | a :: l, f, g, h => by
    have h1 := h a
    have h2 := sum_le l f g h
    simp only [List.map_cons, List.sum_cons]; omega
theorem pv_le {xs : List Bond} {rate : Int} (hl : xs.length ≤ 30) (h : ∀ x ∈ xs, bondB x = true) (hr : 0 ≤ rate) : (pvL xs rate).sum ≤ (flowL xs).sum := by
  refine sum_le _ _ _ fun k => ?_
  obtain ⟨f0, f1⟩ := flow_bound30 (xs := xs) k hl h
  obtain ⟨d0, d1⟩ := disc_bound hr (k + 1)
  unfold pvAt
  have h1 : flowAt xs k * disc rate (k + 1) ≤ flowAt xs k * 1000000000 := Int.mul_le_mul_of_nonneg_left d1 f0
  have h2 : flowAt xs k * disc rate (k + 1) / 1000000000 ≤ flowAt xs k * 1000000000 / 1000000000 := Int.ediv_le_ediv (by decide) h1
  rwa [Int.mul_ediv_cancel _ (by decide)] at h2
theorem range_sum (vs : List Int) : ∀ k : Nat, k ≤ vs.length → ((List.range k).map fun j => vs.getD j 0).sum = (vs.take k).sum
  | 0, _ => by simp
  | k + 1, hk => by
    obtain ⟨v, hv⟩ := get_of_lt (xs := vs) (k := k) (by omega)
    rw [List.range_succ, List.map_append, List.sum_append, range_sum vs k (by omega), sum_snoc hv]
    simp [List.getD_eq_getElem?_getD, hv]
theorem wsum_two {vs : List Int} (h : ∀ v ∈ vs, 0 ≤ v) : ∀ k : Nat, k ≤ vs.length → (vs.take k).sum ≤ wsum vs k ∧ wsum vs k ≤ (k : Int) * (vs.take k).sum
  | 0, _ => by simp [wsum]
  | k + 1, hk => by
    obtain ⟨v, hv⟩ := get_of_lt (xs := vs) (k := k) (by omega)
    obtain ⟨h1, h2⟩ := wsum_two h k (by omega)
    have hv0 := h v (List.mem_of_getElem? hv)
    have e : vs.getD k 0 = v := by simp [List.getD_eq_getElem?_getD, hv]
    rw [wsum_succ, sum_snoc hv, e]
    have e1 : ((k : Int) + 1) * v = (k : Int) * v + v := by rw [Int.add_mul]; omega
    have e2 : ((k + 1 : Nat) : Int) * ((vs.take k).sum + v) = (k : Int) * (vs.take k).sum + (k : Int) * v + (vs.take k).sum + v := by
      rw [Int.natCast_add, Int.add_mul, Int.mul_add]; simp; omega
    have h3 : 0 ≤ (k : Int) * v := Int.mul_nonneg (by omega) hv0
    have h4 : 0 ≤ (vs.take k).sum := by
      have : ∀ l : List Int, (∀ x ∈ l, 0 ≤ x) → 0 ≤ l.sum := by
        intro l; induction l with
        | nil => simp
        | cons a l ih => intro hl; simp only [List.sum_cons]; have := hl a (by simp); have := ih fun x hx => hl x (by simp [hx]); omega
      exact this _ fun x hx => h x (List.mem_of_mem_take hx)
    rw [e1, e2]; omega
theorem low_between {a b : Int} {m : Int} (hb : 1 ≤ b) (h1 : b ≤ a) (h2 : a ≤ m * b) : (lowP a b).2 ≤ (lowP a b).1 ∧ (lowP a b).1 ≤ m * (lowP a b).2 := by
  unfold lowP
  have hg := gcdP_pos (a := a) hb
  obtain ⟨g, hgg⟩ : ∃ g, gcdP a b = g := ⟨_, rfl⟩
  have da : g ∣ a := by
    rw [← hgg]; unfold gcdP
    have := Nat.gcd_dvd_left a.toNat b.toNat
    have h9 : ((Nat.gcd a.toNat b.toNat : Nat) : Int) ∣ ((a.toNat : Nat) : Int) := Int.natCast_dvd_natCast.2 this
    rwa [Int.toNat_of_nonneg (by omega)] at h9
  have db : g ∣ b := by
    rw [← hgg]; unfold gcdP
    have := Nat.gcd_dvd_right a.toNat b.toNat
    have h9 : ((Nat.gcd a.toNat b.toNat : Nat) : Int) ∣ ((b.toNat : Nat) : Int) := Int.natCast_dvd_natCast.2 this
    rwa [Int.toNat_of_nonneg (by omega)] at h9
  rw [hgg] at hg ⊢
  simp only
  refine ⟨Int.ediv_le_ediv (by omega) h1, ?_⟩
  obtain ⟨x, rfl⟩ := da
  obtain ⟨y, rfl⟩ := db
  rw [Int.mul_ediv_cancel_left _ (by omega), Int.mul_ediv_cancel_left _ (by omega)]
  have h3 : g * x ≤ g * (m * y) := by rw [← Int.mul_assoc, Int.mul_comm g m, Int.mul_assoc]; exact h2
  exact Int.le_of_mul_le_mul_left h3 (by omega)
theorem mean_between {xs : List Bond} {rate a b : Int} (h : meanTermP xs rate = (a, b, 0)) : b ≤ a ∧ a ≤ 40 * b := by
  unfold meanTermP at h
  split at h
  rotate_left
  · rename_i hn; simp only [Prod.mk.injEq] at h; exact absurd h.2.2 hn
  rename_i hcode
  obtain ⟨hb, hr0, hr1⟩ := bonds_ok hcode
  split at h
  · simp at h
  rename_i hne
  simp only [Prod.mk.injEq, and_true] at h
  obtain ⟨rfl, rfl⟩ := h
  have hv := pvL_bound (rate := rate) (bonds_len hb) (bonds_bond hb) hr0
  have hs := (pvL_sums (rate := rate) (bonds_len hb) (bonds_bond hb) hr0).2
  have h1 := wsum_two (vs := pvL xs rate) (fun v h => (hv v h).1) 40 (by rw [pvL_length]; omega)
  rw [List.take_of_length_le (by rw [pvL_length]; omega)] at h1
  exact low_between (by omega) h1.1 (by simpa using h1.2)
end Go.Proofs.Ytoabhnobgdjgkaa
