/- What a bonus adds to a policy and what that is worth: plain functions and their laws. No program. -/
import Derived.Test.YtkpppajihgnkcaaPort4
namespace Go.Proofs.Ytkpppajihgnkcaa
open Go.RowKit Go.BigFrame

/-- the addition to the sum of each policy, and its worth, from the parts of a reserve: a the cash for each -/
def addQ (a t d : Int) : Int × Int := if t = 0 then (0, 0) else (min (a * d / t) 100000000, upP (min (a * d / t) 100000000) t d)
def addP (b : Bas) (h : Holding) (x : Int) : Int × Int := if h.count = 0 then (0, 0) else addQ (x / h.count) (partT b h.pol h.year) (partD b h.pol h.year)
structure AddOk (a t d : Int) : Prop where
  a0 : 0 ≤ a
  a1 : a ≤ 1000000000
  t0 : 1 ≤ t
  t1 : t ≤ d
  d1 : d ≤ 1000000000000000
theorem add_quo {a t d : Int} (K : AddOk a t d) : 0 ≤ a * d / t := Int.ediv_nonneg (Int.mul_nonneg K.a0 (by have := K.t0; have := K.t1; omega)) (by have := K.t0; omega)
theorem add_up {q t d : Int} (hq : 0 ≤ q) (ht : 0 ≤ t) (hd : 1 ≤ d) (h : t ≤ d) : (0 ≤ q * t / d ∧ q * t / d ≤ q) ∧ 0 ≤ upP q t d ∧ upP q t d ≤ q := by
  have h1 := mul_div_le (m := 1) hq ht hd (by omega)
  rw [Int.mul_one] at h1
  exact ⟨h1, up_le hq ht hd h⟩
theorem add_low {a t d : Int} (h : ¬ a * d / t ≤ 1000000000000000000) : min (a * d / t) 100000000 = 100000000 := by omega
theorem addQ_bound {a t d : Int} (h : t = 0 ∨ AddOk a t d) : (0 ≤ (addQ a t d).1 ∧ (addQ a t d).1 ≤ 100000000) ∧ 0 ≤ (addQ a t d).2 ∧ (addQ a t d).2 ≤ 100000000 := by
  unfold addQ
  by_cases h0 : t = 0
  · rw [if_pos h0]; omega
  · rw [if_neg h0]
    rcases h with h | K
    · exact absurd h h0
    · have h1 := add_quo K
      have h2 := add_up (q := min (a * d / t) 100000000) (t := t) (d := d) (by omega) (by have := K.t0; omega) (by have := K.t0; have := K.t1; omega) K.t1
      simp only
      omega
/-- what one policy pays for its addition is at most its cash -/
theorem worth_le {a t d : Int} (K : AddOk a t d) : (addQ a t d).2 ≤ a := by
  have h0 : ¬ t = 0 := by have := K.t0; omega
  unfold addQ
  rw [if_neg h0]
  simp only
  have hd : 1 ≤ d := by have := K.t0; have := K.t1; omega
  have hq := add_quo K
  generalize hm : min (a * d / t) 100000000 = q
  have hq0 : 0 ≤ q := by omega
  have hq1 : q ≤ a * d / t := by omega
  have h1 : q * t ≤ a * d / t * t := Int.mul_le_mul_of_nonneg_right hq1 (by have := K.t0; omega)
  have h2 : a * d / t * t ≤ a * d := by
    have := Int.mul_ediv_add_emod (a * d) t
    have := Int.emod_nonneg (a * d) (show t ≠ 0 from h0)
    have e := Int.mul_comm t (a * d / t)
    have h8 := Int.emod_nonneg (a * d) h0
    omega
  have h3 : q * t ≤ a * d := by omega
  unfold upP
  have h4 := Int.mul_ediv_add_emod (q * t) d
  have h5 := Int.emod_nonneg (q * t) (show d ≠ 0 by omega)
  split
  · rename_i hr
    have : q * t / d < a := by
      rcases Int.lt_or_le (q * t / d) a with h6 | h6
      · exact h6
      · have h7 : d * a ≤ d * (q * t / d) := Int.mul_le_mul_of_nonneg_left h6 (by omega)
        rw [Int.mul_comm d a] at h7
        omega
    omega
  · have h6 : q * t / d ≤ a * d / d := Int.ediv_le_ediv (by omega) h3
    rw [Int.mul_ediv_cancel _ (by omega)] at h6
    omega
theorem add_ok {b : Bas} {h : Holding} {x : Int} (Y : YearOk b h.pol h.year) (hx : 0 ≤ x ∧ x ≤ 1000000000) (hc : 1 ≤ h.count) : partT b h.pol h.year = 0 ∨ AddOk (x / h.count) (partT b h.pol h.year) (partD b h.pol h.year) := by
  have h1 := top_bound Y.toBasOk h.pol.kind (h.pol.age + h.year) (leftP h.pol h.year)
  have h2 := d_bound Y.toBasOk (h.pol.age + h.year)
  have h3 : 0 ≤ x / h.count := Int.ediv_nonneg hx.1 (by omega)
  have h4 : x / h.count ≤ x := Int.ediv_le_self _ hx.1
  by_cases h0 : partT b h.pol h.year = 0
  · exact .inl h0
  · refine .inr ⟨h3, by omega, ?_, h1.2, h2.2⟩
    have := h1.1
    unfold partT at h0 ⊢
    omega
theorem addP_bound {b : Bas} {h : Holding} {x : Int} (H : holdB b h = true) (hx : 0 ≤ x ∧ x ≤ 1000000000) : (0 ≤ (addP b h x).1 ∧ (addP b h x).1 ≤ 100000000) ∧ 0 ≤ (addP b h x).2 ∧ (addP b h x).2 ≤ 100000000 ∧ 0 ≤ h.count * (addP b h x).2 ∧ h.count * (addP b h x).2 ≤ x := by
  obtain ⟨⟨c0, c1⟩, Y⟩ := hold_ok H
  unfold addP
  by_cases hc : h.count = 0
  · rw [if_pos hc, hc]; omega
  · rw [if_neg hc]
    have K := add_ok (x := x) Y hx (by omega)
    have h1 := addQ_bound K
    refine ⟨h1.1, h1.2.1, h1.2.2, Int.mul_nonneg c0 h1.2.1, ?_⟩
    rcases K with K | K
    · unfold addQ; rw [if_pos K]; simp; omega
    · have h2 := worth_le K
      have h3 : h.count * (addQ (x / h.count) (partT b h.pol h.year) (partD b h.pol h.year)).2 ≤ h.count * (x / h.count) := Int.mul_le_mul_of_nonneg_left h2 c0
      have h4 := Int.mul_ediv_add_emod x h.count
      have h5 := Int.emod_nonneg x hc
      omega
def addForP (b : Bas) (h : Holding) (x : Int) : Int × Int :=
  if portB b [h] = true then (if inR x 0 1000000000 = true then (if h.count = 0 then (0, 5) else ((addP b h x).1, 0)) else (0, 2)) else (0, 1)

/-- holdings with their additions; what is left over -/
def Holding.plus (h : Holding) (q : Int) : Holding := { h with sum := h.sum + q }
def addH (b : Bas) (xs : List Holding) (ys : List Int) : List Holding := List.zipWith (fun h y => h.plus (addP b h y).1) xs ys
def addLeft (b : Bas) (xs : List Holding) (ys : List Int) : Int := (List.zipWith (fun h y => y - h.count * (addP b h y).2) xs ys).sum
def addB (b : Bas) (xs : List Holding) (ys : List Int) : Bool := (addH b xs ys).all fun h => decide (h.sum ≤ 100000000)
def addsP (b : Bas) (xs : List Holding) (ys : List Int) : List Holding × Int × Int :=
  if portB b xs = true then (if ys.length = xs.length ∧ ys.all (fun y => inR y 0 1000000000) = true then (if addB b xs ys = true then (addH b xs ys, addLeft b xs ys, 0) else ([], 0, 3)) else ([], 0, 2)) else ([], 0, 1)
theorem zip_get {α β γ : Type} {f : α → β → γ} {xs : List α} {ys : List β} {k : Nat} {x : α} {y : β} (h1 : xs[k]? = some x) (h2 : ys[k]? = some y) : (List.zipWith f xs ys)[k]? = some (f x y) := by
  rw [List.getElem?_zipWith, h1, h2]
theorem addH_get {b : Bas} {xs : List Holding} {ys : List Int} {k : Nat} {x : Holding} {y : Int} (h1 : xs[k]? = some x) (h2 : ys[k]? = some y) : (addH b xs ys)[k]? = some (x.plus (addP b x y).1) := zip_get h1 h2
theorem addB_no {b : Bas} {xs : List Holding} {ys : List Int} {k : Nat} {x : Holding} {y : Int} (h1 : xs[k]? = some x) (h2 : ys[k]? = some y) (h : 100000000 < x.sum + (addP b x y).1) : addB b xs ys = false := by
  unfold addB
  rw [List.all_eq_false]
  exact ⟨_, List.mem_of_getElem? (addH_get h1 h2), by
    have h3 : ¬ (x.plus (addP b x y).1).sum ≤ 100000000 := by show ¬ x.sum + (addP b x y).1 ≤ 100000000; omega
    simpa using h3⟩
def leftAt (b : Bas) (xs : List Holding) (ys : List Int) (k : Nat) : Int := ((List.zipWith (fun h y => y - h.count * (addP b h y).2) xs ys).take k).sum
theorem leftAt_succ {b : Bas} {xs : List Holding} {ys : List Int} {k : Nat} {x : Holding} {y : Int} (h1 : xs[k]? = some x) (h2 : ys[k]? = some y) : leftAt b xs ys (k + 1) = leftAt b xs ys k + (y - x.count * (addP b x y).2) :=
  sum_snoc (zip_get h1 h2)
theorem leftAt_bound {b : Bas} {xs : List Holding} {ys : List Int} (hl : xs.length ≤ 30) (hh : ∀ x ∈ xs, holdB b x = true) (hy : ∀ y ∈ ys, 0 ≤ y ∧ y ≤ 1000000000) (k : Nat) : -4000000000000000000 ≤ leftAt b xs ys k ∧ leftAt b xs ys k ≤ 4000000000000000000 :=
  (sums_of (n := 30) (hi := 1000000000) (by omega) (by simp; omega) (fun v hv => by
    obtain ⟨i, hi⟩ := List.mem_iff_getElem?.1 hv
    rw [List.getElem?_zipWith] at hi
    cases hx : xs[i]? with
    | none => simp [hx] at hi
    | some x =>
      cases hy' : ys[i]? with
      | none => simp [hx, hy'] at hi
      | some y =>
        simp only [hx, hy', Option.some.injEq] at hi
        subst hi
        have hb := hy y (List.mem_of_getElem? hy')
        have := addP_bound (hh x (List.mem_of_getElem? hx)) hb
        omega) (by omega)).1 k
end Go.Proofs.Ytkpppajihgnkcaa
