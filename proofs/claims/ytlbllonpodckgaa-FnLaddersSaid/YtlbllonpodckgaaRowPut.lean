/- One row of a slice of the call's own is written; two rows change places; a list in reverse. No condition. -/
import Derived.Test.YtlbllonpodckgaaBase2
namespace Go.Proofs.Ytlbllonpodckgaa
open Go.RowKit Go.BigFrame
theorem flatten_setRow {sz : Nat} {vs : List Value} (hv : vs.length = sz) : ∀ {rows : List (List Value)} {k : Nat}, (∀ r ∈ rows, r.length = sz) → k < rows.length →
    (rows.set k vs).flatten = rows.flatten.take (k * sz) ++ vs ++ rows.flatten.drop (k * sz + sz)
  | [], k, _, hk => by simp at hk
  | a :: rows, 0, hall, _ => by
    have hl := hall a (by simp)
    rw [List.set_cons_zero, List.flatten_cons, List.flatten_cons, Nat.zero_mul, Nat.zero_add, List.take_zero, List.nil_append, List.drop_left' hl]
  | a :: rows, k + 1, hall, hk => by
    have hl := hall a (by simp)
    have ih := flatten_setRow hv (rows := rows) (k := k) (fun x hx => hall x (by simp [hx])) (by simpa using hk)
    have e : (k + 1) * sz = a.length + k * sz := by rw [Nat.add_mul, hl]; omega
    rw [List.set_cons_succ, List.flatten_cons, List.flatten_cons, ih, e, List.take_length_add_append, Nat.add_assoc, List.drop_length_add_append]
    simp only [List.append_assoc]
section
variable {w w' : World} {B sz n cap : Nat} {t : TypeId} {A : Option Addr} {rows : List (List Value)}
theorem Res.putRow (h : Res B w t sz A n cap rows) {k : Nat} (hk : k < n) :
    ∃ g cur, A = some ⟨g, 0, none⟩ ∧ B ≤ g ∧ Blk w g t cur ∧ k * sz + sz ≤ cur.size ∧
      ∀ (vs : List Value) (w' : World), vs.length = sz → Blk w' g t (putAt cur (k * sz) vs) → Res B w' t sz A n cap (rows.set k vs) := by
  have hn := h.len
  rcases h.own.2 with ⟨_, h0⟩ | ⟨g, cap', cur, e, hb, hh, hnc, hcm, hs, ht⟩
  · omega
  · have hfl := flat_length h.all
    have h1 : n * sz ≤ cap' * sz := Nat.mul_le_mul_right _ hnc
    have h2 : (k + 1) * sz ≤ n * sz := Nat.mul_le_mul_right _ hk
    rw [Nat.add_mul, Nat.one_mul] at h2
    have hfit : k * sz + sz ≤ cur.size := by omega
    refine ⟨g, cur, (by injection e), hb, hh, hfit, fun vs w' hv hblk => ?_⟩
    have hall : ∀ x ∈ rows.set k vs, x.length = sz := fun x hx => by
      rcases List.mem_or_eq_of_mem_set hx with h' | h'
      · exact h.all x h'
      · rw [h', hv]
    refine ⟨⟨by rw [flat_length hall, List.length_set, hn], .inr ⟨g, cap', _, e, hb, hblk, hnc, hcm, ?_, ?_⟩⟩, by simpa using hn, hall⟩
    · rw [putAt_size (by omega), hs]
    · have hF : rows.flatten.length = n * sz := by rw [hfl, hn]
      have hc : cur.toList = rows.flatten ++ cur.toList.drop (n * sz) := by rw [← ht, List.take_append_drop]
      have e1 : (cur.toList.take (k * sz)) = rows.flatten.take (k * sz) := by rw [hc, List.take_append_of_le_length (by omega)]
      have e2 : (cur.toList.drop (k * sz + sz)) = rows.flatten.drop (k * sz + sz) ++ cur.toList.drop (n * sz) := by
        conv => lhs; rw [hc]
        rw [List.drop_append_of_le_length (by omega)]
      rw [flatten_setRow hv h.all (by omega)]
      simp only [putAt, hv]
      rw [e1, e2, ← List.append_assoc, List.take_left' (by simp only [List.length_append, List.length_take, List.length_drop, hF, hv]; omega)]
end
/-- a list of which the first t and the last t rows have changed places -/
def rvL (xs : List (List Value)) (t : Nat) : List (List Value) := (List.range xs.length).map fun k => if k < t ∨ xs.length - t ≤ k then xs.getD (xs.length - 1 - k) [] else xs.getD k []
theorem rvL_length (xs : List (List Value)) (t : Nat) : (rvL xs t).length = xs.length := by simp [rvL]
theorem rvL_zero (xs : List (List Value)) : rvL xs 0 = xs := by
  apply List.ext_getElem
  · simp [rvL]
  · intro k h1 h2
    simp only [rvL, List.getElem_map, List.getElem_range]
    rw [if_neg (by omega)]
    simp [h2]
theorem rvL_get {xs : List (List Value)} {t k : Nat} (hk : k < xs.length) (h1 : t ≤ k) (h2 : k < xs.length - t) : (rvL xs t)[k]? = some (xs.getD k []) := by
  rw [rvL, List.getElem?_map, List.getElem?_range hk]
  simp only [Option.map_some]
  rw [if_neg (by omega)]
theorem rvL_step {xs : List (List Value)} {t : Nat} (h : t < xs.length - 1 - t) : ((rvL xs t).set t (xs.getD (xs.length - 1 - t) [])).set (xs.length - 1 - t) (xs.getD t []) = rvL xs (t + 1) := by
  apply List.ext_getElem?
  intro k
  simp only [rvL, List.getElem?_set, List.length_set, List.length_map, List.length_range, List.getElem?_map]
  by_cases hk : k < xs.length
  · rw [List.getElem?_range hk]
    by_cases h2 : xs.length - 1 - t = k
    · have h3 : xs.length - 1 - k = t := by omega
      rw [if_pos h2, if_pos (by omega)]
      simp only [Option.map_some]
      rw [if_pos (by omega), h3]
    · rw [if_neg h2]
      by_cases h1 : t = k
      · subst h1
        rw [if_pos rfl, if_pos hk]
        simp only [Option.map_some]
        rw [if_pos (by omega)]
      · rw [if_neg h1]
        simp only [Option.map_some]
        congr 1
        by_cases h3 : k < t ∨ xs.length - t ≤ k
        · rw [if_pos h3, if_pos (by omega)]
        · rw [if_neg h3, if_neg (by omega)]
  · rw [List.getElem?_eq_none (by simp; omega : (List.range xs.length).length ≤ k)]
    rw [if_neg (by omega), if_neg (by omega)]
    rfl
theorem rvL_end {xs : List (List Value)} {t : Nat} (h : xs.length ≤ 2 * t + 1) (h2 : 2 * t ≤ xs.length) : rvL xs t = xs.reverse := by
  apply List.ext_getElem
  · simp [rvL]
  · intro k h1 h3
    have hk : k < xs.length := by simpa [rvL] using h1
    simp only [rvL, List.getElem_map, List.getElem_range, List.getElem_reverse]
    split
    · simp [show xs.length - 1 - k < xs.length by omega]
    · have e : xs.length - 1 - k = k := by omega
      simp [e, hk]
end Go.Proofs.Ytlbllonpodckgaa
