/- Plain facts on lists that the walks' relations want. No program in sight. -/
import Derived.Test.YtlbllonpodckgaaGreatDoorBase
namespace Go.Proofs.YtlbllonpodckgaaGreatDoor

theorem all_succ {α : Type} {p : α → Bool} {xs : List α} {k : Nat} {x : α} (h : (xs.take k).all p = true) (hx : xs[k]? = some x) (hp : p x = true) : (xs.take (k + 1)).all p = true := by
  rw [List.take_add_one, hx]
  simp [h, hp]
theorem all_stop {α : Type} {p : α → Bool} {xs : List α} {k : Nat} {x : α} (hx : xs[k]? = some x) (hp : p x = false) : xs.all p = false := by
  rw [List.all_eq_false]
  exact ⟨x, List.mem_of_getElem? hx, by simp [hp]⟩
theorem all_end {α : Type} {p : α → Bool} {xs : List α} {n : Nat} (hl : xs.length = n) (h : (xs.take n).all p = true) : xs.all p = true := by
  rwa [List.take_of_length_le (by omega)] at h
theorem any_succ {α : Type} {p : α → Bool} {xs : List α} {k : Nat} {x : α} (h : (xs.take k).any p = false) (hx : xs[k]? = some x) (hp : p x = false) : (xs.take (k + 1)).any p = false := by
  rw [List.take_add_one, hx]
  simp [h, hp]
theorem any_stop {α : Type} {p : α → Bool} {xs : List α} {k : Nat} {x : α} (hx : xs[k]? = some x) (hp : p x = true) : xs.any p = true := by
  rw [List.any_eq_true]
  exact ⟨x, List.mem_of_getElem? hx, hp⟩
theorem any_end {α : Type} {p : α → Bool} {xs : List α} {n : Nat} (hl : xs.length = n) (h : (xs.take n).any p = false) : xs.any p = false := by
  rwa [List.take_of_length_le (by omega)] at h
theorem take_succ_snoc {α : Type} {xs : List α} {k : Nat} {x : α} (hx : xs[k]? = some x) : xs.take (k + 1) = xs.take k ++ [x] := by
  rw [List.take_add_one, hx]; rfl
theorem take_all {α : Type} {xs : List α} {n : Nat} (hl : xs.length = n) : xs.take n = xs := List.take_of_length_le (by omega)
theorem getD_of {α : Type} {xs : List α} {k : Nat} {x d : α} (hx : xs[k]? = some x) : xs.getD k d = x := by simp [hx]
theorem all_get {α : Type} {p : α → Bool} {xs : List α} {k : Nat} {x : α} (h : xs.all p = true) (hx : xs[k]? = some x) : p x = true := List.all_eq_true.1 h x (List.mem_of_getElem? hx)
end Go.Proofs.YtlbllonpodckgaaGreatDoor
