/- The helper functions of the laws for []int64: a copy, a comparison, marks. Each contract holds for every argument of the stated shape. -/
import Derived.Test.YtlbllonpodckgaaGreatDoorLaw
namespace Go.Proofs.YtlbllonpodckgaaGreatDoor
open Go.RowKit Go.BigFrame

theorem Int64.info : (Tryz.prog.info? 2).map (fun i => (i.zero, i.size, i.bytes)) = some (some (.int .i64 0), 1, 8) := by kernel_rfl


theorem ints_of_nums : ∀ (rows : List (List Int)), (∀ r ∈ rows, r.length = 1 ∧ ∀ z ∈ r, In64 z) → ∃ xs : List Int, xs.length = rows.length ∧ intRows xs = numRows rows ∧ ∀ x ∈ xs, In64 x
  | [], _ => ⟨[], rfl, rfl, by simp⟩
  | q :: rest, h => by
    obtain ⟨xs, hl, hr, hf⟩ := ints_of_nums rest fun r hr => h r (by simp [hr])
    obtain ⟨hq, hz⟩ := h q (by simp)
    match q, hq with
    | [z0], _ =>
      refine ⟨z0 :: xs, by simp [hl], by rw [intRows, List.map_cons, numRows, List.map_cons, ← numRows, ← hr]; rfl, fun x hx => ?_⟩
      rcases List.mem_cons.1 hx with rfl | hx
      · exact hz _ (by simp)
      · exact hf x hx

theorem fillInt {cs : Array Value} {xs : List Int} {k : Nat} {x : Int} (h : Filled cs 1 (intRows xs) k) (hx : xs[k]? = some x) (hfit : k < cs.size) : Filled (cs.setIfInBounds k (.int .i64 x)) 1 (intRows xs) (k + 1) := by
  have := h.step (r := [.int .i64 x]) (intRows_get hx) rfl (intRows_all xs) (by omega)
  have e : putAt cs (k * 1) [.int .i64 x] = cs.setIfInBounds k (.int .i64 x) := by
    apply Array.ext_getElem?
    intro i
    rw [putAt_get (by simp; omega), Array.getElem?_setIfInBounds]
    simp only [Nat.mul_one, List.length_singleton]
    by_cases h1 : i < k
    · rw [if_pos h1, if_neg (by omega)]
    · by_cases h2 : i < k + 1
      · have : i = k := by omega
        subst this
        simp [hfit]
      · rw [if_neg h1, if_neg h2, if_neg (by omega)]
  rwa [e] at this




end Go.Proofs.YtlbllonpodckgaaGreatDoor
