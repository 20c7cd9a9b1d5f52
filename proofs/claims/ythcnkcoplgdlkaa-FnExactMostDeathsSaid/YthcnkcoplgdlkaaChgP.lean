/- Life tables changed by a scenario: plain functions and their laws. No program. -/
import Derived.Test.YthcnkcoplgdlkaaPolP
import Derived.Test.YthcnkcoplgdlkaaStScenario
import Derived.Test.YthcnkcoplgdlkaaLaw
namespace Go.Proofs.Ythcnkcoplgdlkaa
open Go.RowKit Go.BigFrame

/-- the deaths among l lives that were left at place k -/
def chgDead (xs : List Int) (dt : Int) (k : Nat) (l : Int) : Int :=
  if k + 2 < xs.length then min l (ceilDiv (l * (lv xs k - lv xs (k + 1)) * (1000 + dt)) (1000 * lv xs k)) else l
def chgAt (xs : List Int) (dt : Int) : Nat → Int
  | 0 => lv xs 0
  | k + 1 => chgAt xs dt k - chgDead xs dt k (chgAt xs dt k)
def chgLen (xs : List Int) (dt : Int) : Nat := ((List.range xs.length).takeWhile fun k => decide (0 < chgAt xs dt k)).length
def chgL (xs : List Int) (dt : Int) : List Int := (List.range (chgLen xs dt + 1)).map (chgAt xs dt)
theorem takeWhile_len {p : Nat → Bool} {n k : Nat} (hk : k < n) (h : ∀ j, j < k → p j = true) (hp : p k = false) : ((List.range n).takeWhile p).length = k := by
  obtain ⟨m, rfl⟩ : ∃ m, n = k + (m + 1) := ⟨n - k - 1, by omega⟩
  rw [List.range_add, List.takeWhile_append_of_pos (fun j hj => h j (by simpa using hj)), List.range_succ_eq_map]
  simp [hp]
theorem up_ceil {a b c : Int} (hc : 1 ≤ c) : upP a b c = ceilDiv (a * b) c := by
  unfold upP ceilDiv
  generalize a * b = x
  have h1 := Int.mul_ediv_add_emod x c
  have h2 := Int.emod_nonneg x (show c ≠ 0 by omega)
  have h3 := Int.emod_lt_of_pos x (show 0 < c by omega)
  by_cases h : 0 < x % c
  · rw [if_pos h]
    have e : -x = (c - x % c) + c * (-(x / c) - 1) := by rw [Int.mul_sub, Int.mul_neg]; omega
    have h4 : (c - x % c) / c = 0 := Int.ediv_eq_zero_of_lt (by omega) (by omega)
    have h5 : c ≠ 0 := by omega
    rw [e, Int.add_mul_ediv_left _ _ h5, h4]
    omega
  · rw [if_neg h]
    have e : -x = 0 + c * (-(x / c)) := by rw [Int.mul_neg]; omega
    have h5 : c ≠ 0 := by omega
    rw [e, Int.add_mul_ediv_left _ _ h5]
    simp
section
variable {first : Int} {xs : List Int} {dt : Int} (T : TabOk first xs) (hd : -500 ≤ dt ∧ dt ≤ 500)
include T hd
/-- the parts of one step, while lives are left -/
theorem chg_parts {k : Nat} {l : Int} (hk : k + 1 < xs.length) (h0 : 0 ≤ l) (h1 : l ≤ 1000000) : (0 ≤ lv xs k - lv xs (k + 1) ∧ lv xs k - lv xs (k + 1) ≤ 1000000) ∧ (0 ≤ l * (lv xs k - lv xs (k + 1)) ∧ l * (lv xs k - lv xs (k + 1)) ≤ 1000000000000) ∧
    (0 ≤ (lv xs k - lv xs (k + 1)) * (1000 + dt) ∧ (lv xs k - lv xs (k + 1)) * (1000 + dt) ≤ 1500000000) ∧ (1000 ≤ 1000 * lv xs k ∧ 1000 * lv xs k ≤ 1000000000) ∧
    0 ≤ l * (lv xs k - lv xs (k + 1)) * (1000 + dt) ∧ l * (lv xs k - lv xs (k + 1)) * (1000 + dt) ≤ 1500000000000000 := by
  have h2 := T.anti k
  have h3 := T.nonneg k
  have h4 := T.most k
  have h5 := T.nonneg (k + 1)
  have h6 := T.pos k (by omega)
  have h7 : 0 ≤ (lv xs k - lv xs (k + 1)) * (1000 + dt) := Int.mul_nonneg (by omega) (by omega)
  have h8 : (lv xs k - lv xs (k + 1)) * (1000 + dt) ≤ 1000000 * 1500 := Int.mul_le_mul (by omega) (by omega) (by omega) (by omega)
  have h9 : l * (lv xs k - lv xs (k + 1)) ≤ 1000000 * 1000000 := Int.mul_le_mul (by omega) (by omega) (by omega) (by omega)
  have h10 : 0 ≤ l * (lv xs k - lv xs (k + 1)) := Int.mul_nonneg h0 (by omega)
  have h11 : l * (lv xs k - lv xs (k + 1)) * (1000 + dt) ≤ 1000000000000 * 1500 := Int.mul_le_mul (by omega) (by omega) (by omega) (by omega)
  have h12 := Int.mul_nonneg h10 (show 0 ≤ 1000 + dt by omega)
  omega
theorem chg_dead {k : Nat} {l : Int} (h0 : 0 ≤ l) (h1 : l ≤ 1000000) : 0 ≤ chgDead xs dt k l ∧ chgDead xs dt k l ≤ l := by
  unfold chgDead
  split
  · rename_i hk
    have h2 := chg_parts T hd (show k + 1 < xs.length by omega) h0 h1
    generalize l * (lv xs k - lv xs (k + 1)) * (1000 + dt) = x at *
    generalize 1000 * lv xs k = y at *
    have : 0 ≤ ceilDiv x y := by
      unfold ceilDiv
      have h3 := Int.mul_ediv_add_emod (-x) y
      have h4 := Int.emod_lt_of_pos (-x) (show 0 < y by omega)
      rcases Int.lt_or_le 0 ((-x) / y) with h5 | h5
      · have h6 : y * 1 ≤ y * ((-x) / y) := Int.mul_le_mul_of_nonneg_left (by omega) (by omega)
        have h7 := Int.emod_nonneg (-x) (show y ≠ 0 by omega)
        omega
      · omega
    omega
  · omega
theorem chg_bound : ∀ k : Nat, 0 ≤ chgAt xs dt k ∧ chgAt xs dt k ≤ 1000000
  | 0 => by have := T.nonneg 0; have := T.most 0; unfold chgAt; omega
  | k + 1 => by
    have h := chg_bound k
    have := chg_dead T hd (k := k) h.1 h.2
    unfold chgAt; omega
theorem chg_anti (k : Nat) : chgAt xs dt (k + 1) ≤ chgAt xs dt k := by
  have h := chg_bound T hd k
  have := chg_dead T hd (k := k) h.1 h.2
  rw [chgAt]; omega
omit T hd in
theorem chg_last {k : Nat} (hk : xs.length ≤ k + 2) : chgAt xs dt (k + 1) = 0 := by
  rw [chgAt, chgDead, if_neg (by omega)]; omega
end
theorem chg_len {xs : List Int} {dt : Int} {k : Nat} (hk : k < xs.length) (h : ∀ j, j < k → 0 < chgAt xs dt j) (hp : chgAt xs dt k = 0) : chgLen xs dt = k :=
  takeWhile_len hk (fun j hj => by simpa using h j hj) (by simp [hp])
theorem chg_low {xs : List Int} {dt : Int} {k : Nat} (h : 0 < chgAt xs dt (k + 1)) : k + 2 < xs.length := by
  rcases Nat.lt_or_ge (k + 2) xs.length with h1 | h1
  · exact h1
  · rw [chg_last h1] at h; omega
theorem chgLen_le {xs : List Int} {dt : Int} : chgLen xs dt ≤ xs.length := by
  unfold chgLen
  have h1 := (List.takeWhile_prefix (fun k => decide (0 < chgAt xs dt k)) (l := List.range xs.length)).length_le
  simpa using h1
theorem chgL_length (xs : List Int) (dt : Int) : (chgL xs dt).length = chgLen xs dt + 1 := by simp [chgL]
def chgTP (f : Int) (xs : List Int) (dt : Int) : Int × List Int × Int := if tableB f xs = true then (if inR dt (-500) 500 = true then (f, chgL xs dt, 0) else (0, [], 2)) else (0, [], 1)
def chgB (b : Bas) (r : Scenario) : Bas := ⟨b.first, chgL b.lives r.death, b.rate + r.rate⟩
def scenB (b : Bas) (r : Scenario) : Bool := inR r.rate (-200) 200 && (inR r.death (-500) 500 && inR (b.rate + r.rate) 0 200)
def chgBP (b : Bas) (r : Scenario) : Bas × Int := if basisB b = true then (if scenB b r = true then (chgB b r, 0) else (⟨0, [], 0⟩, 2)) else (⟨0, [], 0⟩, 1)
theorem chgL_small {f : Int} {xs : List Int} {dt : Int} (h : tableB f xs = true) : (chgL xs dt).length ≤ 121 := by
  rw [chgL_length]
  have := chgLen_le (xs := xs) (dt := dt)
  have := (table_ok h).len1
  omega
theorem chgT_small (f : Int) (xs : List Int) (dt : Int) : (chgTP f xs dt).2.1.length ≤ 1048576 := by
  unfold chgTP
  split
  · rename_i h
    split
    · have := chgL_small (dt := dt) h; simp only; omega
    · simp
  · simp
theorem chgB_small (b : Bas) (r : Scenario) : (chgBP b r).1.lives.length ≤ 1048576 := by
  unfold chgBP
  split
  · rename_i h
    have h1 : tableB b.first b.lives = true := by simp only [basisB, Bool.and_eq_true] at h; exact h.1
    split
    · have := chgL_small (dt := r.death) h1; simp only [chgB]; omega
    · simp
  · simp
theorem chgL_fits {f : Int} {xs : List Int} {dt : Int} (T : TabOk f xs) (hd : -500 ≤ dt ∧ dt ≤ 500) : ∀ x ∈ chgL xs dt, In64 x := by
  intro x hx
  simp only [chgL, List.mem_map] at hx
  obtain ⟨k, _, rfl⟩ := hx
  have := chg_bound T hd k
  unfold In64; omega
theorem scen_ok {b : Bas} {r : Scenario} (h : scenB b r = true) : (-200 ≤ r.rate ∧ r.rate ≤ 200) ∧ (-500 ≤ r.death ∧ r.death ≤ 500) ∧ 0 ≤ b.rate + r.rate ∧ b.rate + r.rate ≤ 200 := by
  simpa only [scenB, Bool.and_eq_true, inR_true] using h
theorem chgB_fits (b : Bas) (r : Scenario) : (chgBP b r).1.lives.length ≤ 1048576 ∧ (∀ x ∈ (chgBP b r).1.lives, In64 x) ∧ In64 (chgBP b r).1.first ∧ In64 (chgBP b r).1.rate := by
  refine ⟨chgB_small b r, ?_⟩
  unfold chgBP
  split
  · rename_i h
    have B := basis_ok h
    split
    · rename_i h2
      obtain ⟨h3, h4, h5⟩ := scen_ok h2
      have := B.tab.first0; have := B.tab.first1
      exact ⟨chgL_fits B.tab h4, by unfold chgB In64; simp only; omega, by unfold chgB In64; simp only; omega⟩
    · exact ⟨by simp, by unfold In64; simp, by unfold In64; simp⟩
  · exact ⟨by simp, by unfold In64; simp, by unfold In64; simp⟩
end Go.Proofs.Ythcnkcoplgdlkaa
