/- A ladder of bonds: the needs in the order in which the program takes them, from the last one on. -/
import Derived.Test.YtlbllonpodckgaaLadderP
namespace Go.Proofs.Ytlbllonpodckgaa
open Go.RowKit Go.BigFrame

/-- an index of a list of needs -/
abbrev NdK := { k : Nat // k < 1048576 }
def ndV (ys : List Int) (k : Nat) : Int := ys.getD k 0
def ladStep (c : Int) (ys : List Int) (S : List Bond × Int) (k : NdK) : List Bond × Int :=
  if 0 < nomP (ndV ys k.1 - S.2) c then (S.1 ++ [⟨nomP (ndV ys k.1 - S.2) c, c, (k.1 : Int) + 1⟩], S.2 + nomP (ndV ys k.1 - S.2) c * c / 1000) else S
def ladF (c : Int) (ys : List Int) (pre : List NdK) : List Bond × Int := pre.foldl (ladStep c ys) ([], 0)
theorem ladF_nil (c : Int) (ys : List Int) : ladF c ys [] = ([], 0) := rfl
theorem ladF_snoc (c : Int) (ys : List Int) (pre : List NdK) (k : NdK) : ladF c ys (pre ++ [k]) = ladStep c ys (ladF c ys pre) k := by simp [ladF]
theorem ladF_hit {c : Int} {ys : List Int} {pre : List NdK} {k : NdK} (h : 0 < nomP (ndV ys k.1 - (ladF c ys pre).2) c) :
    ladF c ys (pre ++ [k]) = ((ladF c ys pre).1 ++ [⟨nomP (ndV ys k.1 - (ladF c ys pre).2) c, c, (k.1 : Int) + 1⟩], (ladF c ys pre).2 + nomP (ndV ys k.1 - (ladF c ys pre).2) c * c / 1000) := by
  rw [ladF_snoc, ladStep, if_pos h]
theorem ladF_miss {c : Int} {ys : List Int} {pre : List NdK} {k : NdK} (h : ¬ 0 < nomP (ndV ys k.1 - (ladF c ys pre).2) c) : ladF c ys (pre ++ [k]) = ladF c ys pre := by
  rw [ladF_snoc, ladStep, if_neg h]
theorem ladFold_bound {c : Int} {ys : List Int} (hc : 0 ≤ c ∧ c ≤ 200) (h : ∀ k : Nat, 0 ≤ ndV ys k ∧ ndV ys k ≤ 1000000000) : ∀ (pre : List NdK) (S : List Bond × Int), 0 ≤ S.2 →
    (0 ≤ (pre.foldl (ladStep c ys) S).2 ∧ (pre.foldl (ladStep c ys) S).2 ≤ S.2 + 200000000 * (pre.length : Int)) ∧ (pre.foldl (ladStep c ys) S).1.length ≤ S.1.length + pre.length
  | [], S, h0 => by simp [h0]
  | k :: rest, S, h0 => by
    have h3 := h k.1
    have h4 := nom_bound (a := ndV ys k.1 - S.2) hc (by omega)
    have h5 := coupon_bound hc ⟨nom_nonneg (ndV ys k.1 - S.2) c, h4⟩
    have key : 0 ≤ (ladStep c ys S k).2 ∧ (ladStep c ys S k).2 ≤ S.2 + 200000000 ∧ (ladStep c ys S k).1.length ≤ S.1.length + 1 := by
      unfold ladStep
      split
      · simp only [List.length_append, List.length_cons, List.length_nil]; omega
      · omega
    obtain ⟨⟨i1, i2⟩, i3⟩ := ladFold_bound hc h rest (ladStep c ys S k) key.1
    simp only [List.foldl_cons, List.length_cons]
    omega
theorem ladF_bound {c : Int} {ys : List Int} (hc : 0 ≤ c ∧ c ≤ 200) (h : ∀ k : Nat, 0 ≤ ndV ys k ∧ ndV ys k ≤ 1000000000) (pre : List NdK) :
    (0 ≤ (ladF c ys pre).2 ∧ (ladF c ys pre).2 ≤ 200000000 * (pre.length : Int)) ∧ (ladF c ys pre).1.length ≤ pre.length := by
  have := ladFold_bound hc h pre ([], 0) (by simp)
  simpa [ladF] using this
/-- the first j indices of a list of n needs, from the last one on -/
def dnK (n : Nat) (hn : n ≤ 1048576) (j : Nat) : List NdK := (List.range j).map fun i => ⟨n - 1 - i, by omega⟩
theorem dnK_length (n : Nat) (hn : n ≤ 1048576) (j : Nat) : (dnK n hn j).length = j := by simp [dnK]
theorem dnK_succ (n : Nat) (hn : n ≤ 1048576) (j : Nat) : dnK n hn (j + 1) = dnK n hn j ++ [⟨n - 1 - j, by omega⟩] := by simp [dnK, List.range_succ]
theorem dnK_next {n r : Nat} (hn : n ≤ 1048576) (hr : r < n) (h : r < 1048576) : dnK n hn (n - r) = dnK n hn (n - (r + 1)) ++ [⟨r, h⟩] := by
  have e : n - r = n - (r + 1) + 1 := by omega
  rw [e, dnK_succ]
  congr 2
  apply Subtype.ext
  show n - 1 - (n - (r + 1)) = r
  omega
theorem ladF_dn {c : Int} {ys : List Int} (hn : ys.length ≤ 1048576) : ∀ j : Nat, ladF c ys (dnK ys.length hn j) = ((ladS c ys j).1.reverse, (ladS c ys j).2)
  | 0 => rfl
  | j + 1 => by
    rw [dnK_succ, ladF_snoc, ladF_dn hn j]
    simp only [ladStep, ndV, ladS]
    split
    · rename_i h; simp; simpa using h
    · rename_i h; simp; simpa using h
end Go.Proofs.Ytlbllonpodckgaa
