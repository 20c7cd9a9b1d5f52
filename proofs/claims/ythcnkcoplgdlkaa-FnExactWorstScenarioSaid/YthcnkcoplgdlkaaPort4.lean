/- The reserve of a portfolio: the program's and the reference's contracts. -/
import Derived.Test.YthcnkcoplgdlkaaPort3
namespace Go.Proofs.Ythcnkcoplgdlkaa
open Go.RowKit Go.BigFrame

def resL (b : Bas) (xs : List Holding) : List Int := xs.map (resV b)
theorem resL_get {b : Bas} {xs : List Holding} {k : Nat} {x : Holding} (h : xs[k]? = some x) : (resL b xs)[k]? = some (resV b x) := by simp [resL, h]
theorem resL_sums {b : Bas} {xs : List Holding} (hl : xs.length ≤ 30) (hh : ∀ x ∈ xs, holdB b x = true) : Sums (resL b xs) :=
  (sums_of (n := 30) (hi := 100000001000000) (by omega) (by simpa [resL] using hl) (fun v hv => by
    obtain ⟨x, hx, rfl⟩ := List.mem_map.1 hv
    exact resV_bound (hh x hx)) (by omega)).1
theorem port_hold {b : Bas} {xs : List Holding} (H : portB b xs = true) : xs.length ≤ 30 ∧ ∀ x ∈ xs, holdB b x = true := by
  simp only [portB, Bool.and_eq_true, decide_eq_true_eq, List.all_eq_true] at H
  exact ⟨H.2.1, H.2.2⟩
def totP (b : Bas) (xs : List Holding) : Int × Int := if portB b xs = true then ((resL b xs).sum, 0) else (0, 1)

end Go.Proofs.Ythcnkcoplgdlkaa
