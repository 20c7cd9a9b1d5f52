/- The first contradiction of statutes: the plain function, and the first kind that two rules share. -/
import Derived.Test.YtlbllonpodckgaaDec
namespace Go.Proofs.Ytlbllonpodckgaa
open Go.RowKit Go.BigFrame

def comC (a b : Rule) (k : Int) : Case := ⟨max a.ageFrom b.ageFrom, max a.yearsFrom b.yearsFrom, k⟩
def comB (a b : Rule) (k : Int) : Bool := appliesB a (comC a b k) && appliesB b (comC a b k)
def comP (a b : Rule) : Option Case := if comB a b 0 then some (comC a b 0) else if comB a b 1 then some (comC a b 1) else if comB a b 2 then some (comC a b 2) else if comB a b 3 then some (comC a b 3) else none
def hitP (a b : Rule) : Option Case := if a.outcome = b.outcome then none else comP a b
def innerP (a : Rule) : List Rule → Int → Option (Int × Case)
  | [], _ => none
  | b :: rest, j => match hitP a b with
    | some c => some (j, c)
    | none => innerP a rest (j + 1)
def outerP : List Rule → Int → Option (Int × Int × Case)
  | [], _ => none
  | a :: rest, i => match innerP a rest (i + 1) with
    | some (j, c) => some (i, j, c)
    | none => outerP rest (i + 1)
def contraP (xs : List Rule) : Int × Int × Case × Int :=
  if statutesB xs = true then (match outerP xs 0 with
    | some (i, j, c) => (i, j, c, 0)
    | none => (0, 0, ⟨0, 0, 0⟩, 4)) else (0, 0, ⟨0, 0, 0⟩, 1)
theorem drop_at {α : Type} : ∀ {xs : List α} {k : Nat} {x : α}, xs[k]? = some x → xs.drop k = x :: xs.drop (k + 1)
  | [], k, x, h => by simp at h
  | y :: ys, 0, x, h => by simp at h; simp [h]
  | y :: ys, k + 1, x, h => by simp at h; simpa using drop_at h
theorem inner_hit {a b : Rule} {xs : List Rule} {j : Nat} {c : Case} (h : xs[j]? = some b) (hc : hitP a b = some c) : innerP a (xs.drop j) (j : Int) = some ((j : Int), c) := by
  rw [drop_at h, innerP, hc]
theorem inner_miss {a b : Rule} {xs : List Rule} {j : Nat} (h : xs[j]? = some b) (hc : hitP a b = none) : innerP a (xs.drop j) (j : Int) = innerP a (xs.drop (j + 1)) ((j + 1 : Nat) : Int) := by
  rw [drop_at h, innerP, hc]; simp
theorem inner_end {a : Rule} {xs : List Rule} {j : Nat} (h : xs.length ≤ j) : innerP a (xs.drop j) (j : Int) = none := by
  rw [List.drop_eq_nil_of_le h]; rfl
theorem outer_hit {a : Rule} {xs : List Rule} {i : Nat} {j : Int} {c : Case} (h : xs[i]? = some a) (hc : innerP a (xs.drop (i + 1)) ((i + 1 : Nat) : Int) = some (j, c)) : outerP (xs.drop i) (i : Int) = some ((i : Int), j, c) := by
  rw [drop_at h, outerP, show (i : Int) + 1 = ((i + 1 : Nat) : Int) by simp, hc]
theorem outer_miss {a : Rule} {xs : List Rule} {i : Nat} (h : xs[i]? = some a) (hc : innerP a (xs.drop (i + 1)) ((i + 1 : Nat) : Int) = none) : outerP (xs.drop i) (i : Int) = outerP (xs.drop (i + 1)) ((i + 1 : Nat) : Int) := by
  rw [drop_at h, outerP, show (i : Int) + 1 = ((i + 1 : Nat) : Int) by simp, hc]
theorem outer_end {xs : List Rule} {i : Nat} (h : xs.length ≤ i) : outerP (xs.drop i) (i : Int) = none := by
  rw [List.drop_eq_nil_of_le h]; rfl
/-- the reference's test of the bits that two rules share -/
def bit2B (m n k : Int) : Bool := (bits .and .i64 m n / 2 ^ k.toNat).tmod 2 == 0
theorem bit_two {m n k : Int} (hm : 1 ≤ m ∧ m ≤ 15) (hn : 1 ≤ n ∧ n ≤ 15) (hk : 0 ≤ k ∧ k ≤ 3) : bit2B m n k = !(bitB m k && bitB n k) ∧ (0 ≤ bits .and .i64 m n ∧ bits .and .i64 m n ≤ 15) := by
  obtain ⟨m', rfl⟩ := Int.eq_ofNat_of_zero_le (show 0 ≤ m by omega)
  obtain ⟨n', rfl⟩ := Int.eq_ofNat_of_zero_le (show 0 ≤ n by omega)
  obtain ⟨k', rfl⟩ := Int.eq_ofNat_of_zero_le (show 0 ≤ k by omega)
  have key : ∀ a : Nat, a < 16 → ∀ b : Nat, b < 16 → ∀ k : Nat, k < 4 → bit2B (a : Int) (b : Int) (k : Int) = !(bitB (a : Int) (k : Int) && bitB (b : Int) (k : Int)) ∧ (0 ≤ bits .and .i64 (a : Int) (b : Int) ∧ bits .and .i64 (a : Int) (b : Int) ≤ 15) := by decide +kernel
  exact key m' (by omega) n' (by omega) k' (by omega)
/-- the ages and years that two rules share do not hang on the kind -/
def wideB (a b : Rule) : Bool := (inR (max a.ageFrom b.ageFrom) a.ageFrom a.ageTo && inR (max a.yearsFrom b.yearsFrom) a.yearsFrom a.yearsTo) && (inR (max a.ageFrom b.ageFrom) b.ageFrom b.ageTo && inR (max a.yearsFrom b.yearsFrom) b.yearsFrom b.yearsTo)
theorem com_wide (a b : Rule) (k : Int) : comB a b k = (wideB a b && (bitB a.kinds k && bitB b.kinds k)) := by
  simp only [comB, appliesB, comC, wideB]
  cases inR (max a.ageFrom b.ageFrom) a.ageFrom a.ageTo <;> cases inR (max a.yearsFrom b.yearsFrom) a.yearsFrom a.yearsTo <;> cases inR (max a.ageFrom b.ageFrom) b.ageFrom b.ageTo <;> cases inR (max a.yearsFrom b.yearsFrom) b.yearsFrom b.yearsTo <;> cases bitB a.kinds k <;> simp
/-- where the reference stops: at a shared bit, with none ahead, or at 3 -/
theorem com_stop {a b : Rule} {k : Int} (hk : 0 ≤ k ∧ k ≤ 3) (hb : ∀ j : Int, 0 ≤ j → j < k → (bitB a.kinds j && bitB b.kinds j) = false) (he : k = 3 ∨ (bitB a.kinds k && bitB b.kinds k) = true) :
    comB a b k = (comP a b).isSome ∧ ∀ d, comP a b = some d → comC a b k = d := by
  have hw := com_wide a b
  have h0 : ∀ j : Int, 0 ≤ j → j < k → comB a b j = false := fun j h1 h2 => by rw [hw, hb j h1 h2, Bool.and_false]
  rcases (show k = 0 ∨ k = 1 ∨ k = 2 ∨ k = 3 by omega) with rfl | rfl | rfl | rfl
  · rcases he with he | he
    · omega
    · cases h : comB a b 0
      · have hwf : wideB a b = false := by rw [hw, he, Bool.and_true] at h; exact h
        simp [comP, hw, hwf]
      · simp [comP, h]
  · rcases he with he | he
    · omega
    · have h1 := h0 0 (by omega) (by omega)
      cases h : comB a b 1
      · have hwf : wideB a b = false := by rw [hw, he, Bool.and_true] at h; exact h
        simp [comP, hw, hwf]
      · simp [comP, h, h1]
  · rcases he with he | he
    · omega
    · have h1 := h0 0 (by omega) (by omega)
      have h2 := h0 1 (by omega) (by omega)
      cases h : comB a b 2
      · have hwf : wideB a b = false := by rw [hw, he, Bool.and_true] at h; exact h
        simp [comP, hw, hwf]
      · simp [comP, h, h1, h2]
  · have h1 := h0 0 (by omega) (by omega)
    have h2 := h0 1 (by omega) (by omega)
    have h3 := h0 2 (by omega) (by omega)
    cases h : comB a b 3 <;> simp [comP, h, h1, h2, h3]
theorem outer_bound : ∀ {xs : List Rule} {i : Int} {u v : Int} {c : Case}, outerP xs i = some (u, v, c) → (∃ a ∈ xs, ∃ b ∈ xs, comP a b = some c)
  | [], _, _, _, _, h => by simp [outerP] at h
  | a :: rest, i, u, v, c, h => by
    have inner : ∀ {ys : List Rule} {j : Int} {p : Int × Case}, innerP a ys j = some p → ∃ b ∈ ys, comP a b = some p.2 := by
      intro ys
      induction ys with
      | nil => intro j p h; simp [innerP] at h
      | cons y ys ih =>
        intro j p h
        unfold innerP at h
        split at h
        · rename_i c' hc
          injection h with h; subst h
          unfold hitP at hc
          split at hc
          · cases hc
          · exact ⟨y, by simp, hc⟩
        · obtain ⟨b, hb, hc⟩ := ih h
          exact ⟨b, by simp [hb], hc⟩
    unfold outerP at h
    split at h
    · rename_i j' c' hc
      obtain ⟨b, hb, hc2⟩ := inner hc
      simp only [Option.some.injEq, Prod.mk.injEq] at h
      obtain ⟨_, _, rfl⟩ := h
      exact ⟨a, by simp, b, by simp [hb], hc2⟩
    · obtain ⟨a', ha', b', hb', hc⟩ := outer_bound h
      exact ⟨a', by simp [ha'], b', by simp [hb'], hc⟩
end Go.Proofs.Ytlbllonpodckgaa
