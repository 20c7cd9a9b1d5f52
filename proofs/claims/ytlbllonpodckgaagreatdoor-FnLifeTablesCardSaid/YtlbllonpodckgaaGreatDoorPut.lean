/- One cell of a slice of the call's own is written. No condition. -/
import Derived.Test.YtlbllonpodckgaaGreatDoorBase2
namespace Go.Proofs.YtlbllonpodckgaaGreatDoor
open Go.RowKit Go.BigFrame
theorem flatten_set {sz : Nat} {v : Value} : ∀ {rows : List (List Value)} {k j : Nat} {r : List Value}, (∀ r ∈ rows, r.length = sz) → rows[k]? = some r → j < sz → (rows.set k (r.set j v)).flatten = rows.flatten.set (k * sz + j) v
  | [], k, j, r, _, hr, _ => by simp at hr
  | a :: rows, 0, j, r, hall, hr, hj => by
    simp only [List.getElem?_cons_zero, Option.some.injEq] at hr
    subst hr
    have hl := hall a (by simp)
    rw [List.set_cons_zero, List.flatten_cons, List.flatten_cons, Nat.zero_mul, Nat.zero_add, List.set_append_left _ _ (by omega)]
  | a :: rows, k + 1, j, r, hall, hr, hj => by
    have hl := hall a (by simp)
    have ih := flatten_set (v := v) (rows := rows) (k := k) (j := j) (r := r) (fun x hx => hall x (by simp [hx])) (by simpa using hr) hj
    have e : (k + 1) * sz + j = sz + (k * sz + j) := by rw [Nat.add_mul]; omega
    rw [List.set_cons_succ, List.flatten_cons, List.flatten_cons, ih, List.set_append_right _ _ (by omega), e, hl, Nat.add_sub_cancel_left]
section
variable {w : World} {B sz n cap : Nat} {t : TypeId} {A : Option Addr} {rows : List (List Value)}
theorem Res.put (h : Res B w t sz A n cap rows) {k j : Nat} {r : List Value} (hr : rows[k]? = some r) (hj : j < sz) :
    ∃ g, A = some ⟨g, 0, none⟩ ∧ B ≤ g ∧ g < w.heap.size ∧ (∀ u, r[j]? = some u → w.cell? ⟨g, k * sz + j, none⟩ = some u) ∧ w.frozen? ⟨g, k * sz + j, none⟩ = false ∧
      ∀ v, Res B (w.setCell ⟨g, k * sz + j, none⟩ v) t sz A n cap (rows.set k (r.set j v)) := by
  have hk := (List.getElem?_eq_some_iff.1 hr).1
  have hn := h.len
  rcases h.own.2 with ⟨_, h0⟩ | ⟨g, cap', cur, e, hb, hh, hnc, hcm, hs, ht⟩
  · omega
  · have hblk : Blk w g t cur := hh
    have hl := h.all r (List.mem_of_getElem? hr)
    have hflat := flat_length h.all
    refine ⟨g, (by injection e), hb, hblk.lt, fun u hu => ?_, hblk.frozen _, fun v => ?_⟩
    · obtain ⟨ad, e2, _, _, hc⟩ := h.rd.at_ hr
      injection e with e1 e3 e4
      rw [e1] at e2
      injection e2 with e2; subst e2
      have := hc j u hu
      rwa [add_none, Nat.zero_add] at this
    · have hset := hblk.set_ (k * sz + j) v
      have hall : ∀ x ∈ rows.set k (r.set j v), x.length = sz := fun x hx => by
        rcases List.mem_or_eq_of_mem_set hx with h' | h'
        · exact h.all x h'
        · rw [h', List.length_set]; exact hl
      refine ⟨⟨by rw [flat_length hall, List.length_set, hn], .inr ⟨g, cap', _, e, hb, hset, hnc, hcm, by simpa using hs, ?_⟩⟩, by simpa using hn, hall⟩
      rw [flatten_set h.all hr hj, ← ht]
      simp [List.take_set]
end
theorem intRows_set (xs : List Int) (k : Nat) (v : Int) : intRows (xs.set k v) = (intRows xs).set k [Value.int .i64 v] := by
  simp [intRows, List.map_set]
theorem Res.putInt {w : World} {B n cap : Nat} {t : TypeId} {A : Option Addr} {xs : List Int} (h : Res B w t 1 A n cap (intRows xs)) {k : Nat} {x : Int} (hx : xs[k]? = some x) :
    ∃ g, A = some ⟨g, 0, none⟩ ∧ B ≤ g ∧ g < w.heap.size ∧ w.cell? ⟨g, k, none⟩ = some (.int .i64 x) ∧ w.frozen? ⟨g, k, none⟩ = false ∧ ∀ v : Int, Res B (w.setCell ⟨g, k, none⟩ (.int .i64 v)) t 1 A n cap (intRows (xs.set k v)) := by
  obtain ⟨g, h1, h2, h3, h4, h5, h6⟩ := h.put (k := k) (j := 0) (intRows_get hx) (by omega)
  rw [Nat.mul_one, Nat.add_zero] at h4 h5 h6
  refine ⟨g, h1, h2, h3, h4 _ rfl, h5, fun v => ?_⟩
  rw [intRows_set]
  exact h6 (.int .i64 v)
end Go.Proofs.YtlbllonpodckgaaGreatDoor
