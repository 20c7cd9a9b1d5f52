/- Numbers apart by blanks: their text, cut and joined. Plain. -/
import Derived.Test.YtlbllonpodckgaaGreatDoorReadP
import Derived.Lib.Join
namespace Go.Proofs.YtlbllonpodckgaaGreatDoor
open Go.RowKit Go.BigFrame

def numsL (ns : List Int) : List UInt8 := Lib.join (ns.map decL) [32]
theorem join_one (p sep : List UInt8) : Lib.join [p] sep = p := by simp [Lib.join, List.intercalate]
theorem join_cons (p q sep : List UInt8) (r : List (List UInt8)) : Lib.join (p :: q :: r) sep = p ++ sep ++ Lib.join (q :: r) sep := by
  simp [Lib.join, List.intercalate, List.intersperse]
theorem join_snoc (sep : List UInt8) (p : List UInt8) : ∀ ps : List (List UInt8), ps ≠ [] → Lib.join (ps ++ [p]) sep = Lib.join ps sep ++ sep ++ p
  | [], h => absurd rfl h
  | [q], _ => by
    show Lib.join (q :: p :: []) sep = _
    rw [join_cons, join_one, join_one]
  | q :: r :: t, _ => by
    show Lib.join (q :: r :: (t ++ [p])) sep = _
    have ih := join_snoc sep p (r :: t) (by simp)
    rw [join_cons, join_cons]
    have e : (r :: t) ++ [p] = r :: (t ++ [p]) := rfl
    rw [e] at ih
    rw [ih]
    simp
theorem join_cut (c : UInt8) : ∀ l : List UInt8, Lib.join (cutL c l) [c] = l
  | [] => by simp [cutL, Lib.join, List.intercalate]
  | b :: l => by
    have ih := join_cut c l
    match hc : cutL c l with
    | [] => exact absurd hc (cutL_ne c l)
    | p :: r =>
      rw [hc] at ih
      unfold cutL
      split
      · rename_i h
        subst h
        rw [hc, join_cons, ih]; rfl
      · rw [hc]
        show Lib.join ((b :: p) :: r) [c] = b :: l
        match r with
        | [] => rw [join_one] at ih ⊢; rw [ih]
        | q :: t => rw [join_cons] at ih ⊢; rw [← ih]; rfl
theorem decL_free (n : Int) : (32 : UInt8) ∉ decL n := digits_free (dec_digits _).1 (by decide)
theorem cut_nums : ∀ ns : List Int, ns ≠ [] → cutL 32 (numsL ns) = ns.map decL
  | [], h => absurd rfl h
  | [n], _ => by
    show cutL 32 (Lib.join [decL n] [32]) = [decL n]
    rw [join_one]; exact cutL_free (decL_free n)
  | n :: m :: r, _ => by
    have ih := cut_nums (m :: r) (by simp)
    show cutL 32 (Lib.join (decL n :: decL m :: r.map decL) [32]) = decL n :: (m :: r).map decL
    rw [join_cons, List.append_assoc]
    show cutL 32 (decL n ++ 32 :: Lib.join (decL m :: r.map decL) [32]) = _
    rw [cutL_at _ (decL_free n), ← ih]; rfl
theorem decL_inj {a b : Int} (ha : 0 ≤ a) (hb : 0 ≤ b) (h : decL a = decL b) : a = b := by
  have h1 := (dec_digits a.toNat).2
  have h2 := (dec_digits b.toNat).2
  have h3 : Lib.decDigits a.toNat = Lib.decDigits b.toNat := h
  rw [h3, h2] at h1
  omega
/-- words that are numbers' texts -/
theorem words_nums {l : List UInt8} {ns : List Int} (h : cutL 32 l = ns.map decL) : l = numsL ns := by
  rw [← join_cut 32 l, h]; rfl
theorem decL_len {n : Int} (hn : n ≤ 1000000000000000) : (decL n).length ≤ 17 := by
  have := decS_len hn
  rwa [S_size] at this
theorem nums_len : ∀ ns : List Int, (∀ n ∈ ns, n ≤ 1000000000000000) → (numsL ns).length ≤ 18 * ns.length
  | [], _ => by simp [numsL, Lib.join, List.intercalate]
  | [n], h => by
    show (Lib.join [decL n] [32]).length ≤ 18 * 1
    rw [join_one]
    have := decL_len (h n (by simp)); omega
  | n :: m :: r, h => by
    have ih := nums_len (m :: r) (fun x hx => h x (by simp [hx]))
    have h1 := decL_len (h n (by simp))
    show (Lib.join (decL n :: decL m :: r.map decL) [32]).length ≤ 18 * (r.length + 1 + 1)
    rw [join_cons]
    have ih2 : (Lib.join (decL m :: r.map decL) [32]).length ≤ 18 * (r.length + 1) := ih
    simp only [List.length_append, List.length_cons, List.length_nil]
    omega
theorem nums_snoc {ns : List Int} {n : Int} (h : ns ≠ []) : numsL (ns ++ [n]) = numsL ns ++ [32] ++ decL n := by
  unfold numsL
  rw [List.map_append]
  exact join_snoc _ _ _ (by simpa using h)
theorem nums_one (n : Int) : numsL [n] = decL n := join_one _ _
theorem nums_cons {n : Int} {ns : List Int} (h : ns ≠ []) : numsL (n :: ns) = decL n ++ [32] ++ numsL ns := by
  match ns, h with
  | m :: r, _ => exact join_cons _ _ _ _
end Go.Proofs.YtlbllonpodckgaaGreatDoor
