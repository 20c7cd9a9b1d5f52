/- Reserves by the kind of the policies: plain laws. -/
import Derived.Test.YtkpppajihgnkcaaPort4
namespace Go.Proofs.Ytkpppajihgnkcaa
open Go.RowKit Go.BigFrame

/-- what a holding gives to the kind j -/
def kindV (b : Bas) (j : Int) (h : Holding) : Int := if h.kind = j then resV b h else 0
def kindL (b : Bas) (j : Int) (xs : List Holding) : List Int := xs.map (kindV b j)
def kindAt (b : Bas) (xs : List Holding) (j : Int) (k : Nat) : Int := ((kindL b j xs).take k).sum
theorem kindAt_zero (b : Bas) (xs : List Holding) (j : Int) : kindAt b xs j 0 = 0 := by simp [kindAt]
theorem kindAt_succ {b : Bas} {xs : List Holding} {j : Int} {k : Nat} {x : Holding} (h : xs[k]? = some x) : kindAt b xs j (k + 1) = kindAt b xs j k + kindV b j x :=
  sum_snoc (show (kindL b j xs)[k]? = some (kindV b j x) by simp [kindL, h])
theorem kindAt_bound {b : Bas} {xs : List Holding} (hl : xs.length ≤ 30) (hh : ∀ x ∈ xs, holdB b x = true) (j : Int) (k : Nat) : -4000000000000000000 ≤ kindAt b xs j k ∧ kindAt b xs j k ≤ 4000000000000000000 :=
  (sums_of (n := 30) (hi := 100000001000000) (by omega) (by simpa [kindL] using hl) (fun v hv => by
    obtain ⟨x, hx, rfl⟩ := List.mem_map.1 hv
    have := resV_bound (hh x hx)
    unfold kindV
    split <;> omega) (by omega)).1 k
theorem hold_kind {b : Bas} {h : Holding} (H : holdB b h = true) : h.kind = 0 ∨ h.kind = 1 ∨ h.kind = 2 ∨ h.kind = 3 := by
  have P := pol_ok (hold_pol H)
  have h0 : 0 ≤ h.kind := P.kind0
  have h1 : h.kind ≤ 3 := P.kind1
  omega
def kindsP (b : Bas) (xs : List Holding) : List Int × Int :=
  if portB b xs = true then ([kindAt b xs 0 xs.length, kindAt b xs 1 xs.length, kindAt b xs 2 xs.length, kindAt b xs 3 xs.length], 0) else ([], 1)
theorem kinds_small (b : Bas) (xs : List Holding) : (kindsP b xs).1.length ≤ 1048576 := by unfold kindsP; split <;> simp
end Go.Proofs.Ytkpppajihgnkcaa
