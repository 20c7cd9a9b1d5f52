/- The weights by which a bonus is divided: plain functions and their laws. No program. -/
import Derived.Test.YtkpppajihgnkcaaPort4
namespace Go.Proofs.Ytkpppajihgnkcaa
open Go.RowKit Go.BigFrame

def wtV (b : Bas) (x : Holding) : Int := resV b x * x.year
def wtL (b : Bas) (xs : List Holding) : List Int := xs.map (wtV b)
def mostFrom (a : Int) (ws : List Int) : Int := ws.foldl max a
def mostL (ws : List Int) : Int := mostFrom 0 ws
def scaleF (m : Int) : Nat → Int → Int
  | 0, p => p
  | n + 1, p => if m / p ≤ 1000000000 then p else scaleF m n (10 * p)
def scaleP (ws : List Int) : Int := scaleF (mostL ws) 10 1
def scaled (ws : List Int) (p : Int) : List Int := ws.map (· / p)
def weightsL (b : Bas) (xs : List Holding) : List Int := scaled (wtL b xs) (scaleP (wtL b xs))
def weightsP (b : Bas) (xs : List Holding) : List Int × Int := if portB b xs = true then (weightsL b xs, 0) else ([], 1)
theorem mostFrom_le : ∀ {ws : List Int} {a : Int}, a ≤ mostFrom a ws ∧ ∀ x ∈ ws, x ≤ mostFrom a ws
  | [], a => ⟨by simp [mostFrom], by simp⟩
  | y :: ws, a => by
    have h := mostFrom_le (ws := ws) (a := max a y)
    have e : mostFrom a (y :: ws) = mostFrom (max a y) ws := rfl
    rw [e]
    refine ⟨by omega, fun x hx => ?_⟩
    rcases List.mem_cons.1 hx with rfl | hx
    · omega
    · exact h.2 x hx
theorem mostFrom_mem : ∀ {ws : List Int} {a : Int}, mostFrom a ws = a ∨ mostFrom a ws ∈ ws
  | [], a => .inl rfl
  | y :: ws, a => by
    have e : mostFrom a (y :: ws) = mostFrom (max a y) ws := rfl
    rw [e]
    rcases mostFrom_mem (ws := ws) (a := max a y) with h | h
    · rw [h]
      by_cases hy : a ≤ y
      · right; rw [Int.max_eq_right hy]; simp
      · left; exact Int.max_eq_left (by omega)
    · right; simp [h]
theorem mostL_snoc {ws : List Int} {k : Nat} {x : Int} (h : ws[k]? = some x) : mostL (ws.take (k + 1)) = max (mostL (ws.take k)) x := by
  rw [take_succ_snoc h]; simp [mostL, mostFrom]
theorem any_most {ws : List Int} {p : Int} (hp : 1 ≤ p) (_h : ∀ x ∈ ws, 0 ≤ x) : (ws.any fun x => decide (1000000000 < x / p)) = decide (1000000000 < mostL ws / p) := by
  have h1 := mostFrom_le (ws := ws) (a := 0)
  by_cases hm : 1000000000 < mostL ws / p
  · rw [decide_eq_true hm, List.any_eq_true]
    rcases mostFrom_mem (ws := ws) (a := 0) with h2 | h2
    · unfold mostL at hm; rw [h2] at hm; simp at hm
    · exact ⟨_, h2, by simpa [mostL] using hm⟩
  · rw [decide_eq_false hm, List.any_eq_false]
    intro x hx
    have h3 : x / p ≤ mostL ws / p := Int.ediv_le_ediv (by omega) (h1.2 x hx)
    simp; omega
theorem mostL_bound {ws : List Int} {hi : Int} (h0 : 0 ≤ hi) (h : ∀ x ∈ ws, 0 ≤ x ∧ x ≤ hi) : 0 ≤ mostL ws ∧ mostL ws ≤ hi := by
  have h1 := mostFrom_le (ws := ws) (a := 0)
  refine ⟨h1.1, ?_⟩
  rcases mostFrom_mem (ws := ws) (a := 0) with h2 | h2
  · unfold mostL; omega
  · exact (h _ h2).2
theorem hold_year {b : Bas} {x : Holding} (H : holdB b x = true) : 0 ≤ x.year ∧ x.year ≤ 150 := by
  obtain ⟨_, Y⟩ := hold_ok H
  have h1 : x.year ≤ durP b x.pol - 1 := Y.k1
  have h2 := dur_bound Y.toPolOk
  exact ⟨Y.k0, by omega⟩
theorem wtV_bound {b : Bas} {x : Holding} (H : holdB b x = true) : 0 ≤ wtV b x ∧ wtV b x ≤ 20000000000000000 := by
  have h1 := resV_bound H
  have h2 := hold_year H
  have h3 : resV b x * x.year ≤ 100000001000000 * 150 := Int.mul_le_mul h1.2 h2.2 h2.1 (by omega)
  have h4 := Int.mul_nonneg h1.1 h2.1
  unfold wtV
  omega
theorem wtL_get {b : Bas} {xs : List Holding} {k : Nat} {x : Holding} (h : xs[k]? = some x) : (wtL b xs)[k]? = some (wtV b x) := by simp [wtL, h]
theorem wtL_bound {b : Bas} {xs : List Holding} (hh : ∀ x ∈ xs, holdB b x = true) : ∀ v ∈ wtL b xs, 0 ≤ v ∧ v ≤ 20000000000000000 := by
  intro v hv
  obtain ⟨x, hx, rfl⟩ := List.mem_map.1 hv
  exact wtV_bound (hh x hx)
/-- the powers of ten that are tried: n more at most -/
def Trying (m : Int) (n : Nat) (p : Int) : Prop := 1 ≤ p ∧ p * 10 ^ n = 10000000000 ∧ scaleF m 10 1 = scaleF m n p
theorem Trying.start (m : Int) : Trying m 10 1 := ⟨by omega, rfl, rfl⟩
theorem Trying.bound {m : Int} {n : Nat} {p : Int} (h : Trying m n p) : p ≤ 10000000000 := by
  have h1 : (1 : Int) ≤ 10 ^ n := Int.pow_pos (by omega)
  have h2 : p * 1 ≤ p * 10 ^ n := Int.mul_le_mul_of_nonneg_left h1 (by have := h.1; omega)
  have := h.2.1
  omega
theorem Trying.done {m : Int} {n : Nat} {p : Int} (h : Trying m n p) (hm : m / p ≤ 1000000000) : scaleF m 10 1 = p := by
  rw [h.2.2]
  cases n with
  | zero => rfl
  | succ n => rw [scaleF, if_pos hm]
theorem Trying.next {m : Int} {n : Nat} {p : Int} (h : Trying m n p) (h0 : 0 ≤ m ∧ m ≤ 20000000000000000) (hm : ¬ m / p ≤ 1000000000) : ∃ n', n = n' + 1 ∧ Trying m n' (p * 10) ∧ p ≤ 1000000000 := by
  cases n with
  | zero =>
    have h1 := h.2.1
    rw [Int.pow_zero, Int.mul_one] at h1
    subst h1
    omega
  | succ n =>
    have h1 := h.2.1
    have h2 : p * 10 * 10 ^ n = 10000000000 := by rw [Int.mul_assoc, Int.mul_comm 10, ← Int.pow_succ]; exact h1
    have h3 : Trying m n (p * 10) := ⟨by have := h.1; omega, h2, by rw [h.2.2, scaleF, if_neg hm, Int.mul_comm]⟩
    have := h3.bound
    exact ⟨n, rfl, h3, by omega⟩
/-- the first k are divided, the others not yet -/
def partly (ws : List Int) (p : Int) (k : Nat) : List Int := (ws.take k).map (· / p) ++ ws.drop k
theorem partly_zero (ws : List Int) (p : Int) : partly ws p 0 = ws := by simp [partly]
theorem partly_all {ws : List Int} {p : Int} {n : Nat} (h : ws.length = n) : partly ws p n = scaled ws p := by
  unfold partly scaled; rw [List.take_of_length_le (by omega), List.drop_of_length_le (by omega), List.append_nil]
theorem partly_get {ws : List Int} {p : Int} {k : Nat} {x : Int} (h : ws[k]? = some x) : (partly ws p k)[k]? = some x := by
  have hk := (List.getElem?_eq_some_iff.1 h).1
  unfold partly
  rw [List.getElem?_append_right (by simp; omega)]
  simp [Nat.min_eq_left (Nat.le_of_lt hk), h]
theorem partly_next {ws : List Int} {p : Int} {k : Nat} {x : Int} (h : ws[k]? = some x) : (partly ws p k).set k (x / p) = partly ws p (k + 1) := by
  have hk := (List.getElem?_eq_some_iff.1 h).1
  have hx : ws[k] = x := by rw [List.getElem?_eq_getElem hk] at h; injection h
  unfold partly
  have e : k - ((ws.take k).map (· / p)).length = 0 := by simp; omega
  rw [List.set_append_right _ _ (by simp; omega), take_succ_snoc h, List.drop_eq_getElem_cons hk, e, List.set_cons_zero, List.map_append, List.append_assoc]
  rfl
theorem weights_small (b : Bas) (xs : List Holding) : (weightsP b xs).1.length ≤ 1048576 := by
  unfold weightsP
  split
  · rename_i h
    have := (port_hold h).1
    simp [weightsL, scaled, wtL]; omega
  · simp
end Go.Proofs.Ytkpppajihgnkcaa
