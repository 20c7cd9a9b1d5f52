/- The first contradiction of statutes: laws of the plain function, and the cells of a row. -/
import Derived.Test.YtlbllonpodckgaaContraP
import Derived.Test.YtlbllonpodckgaaTail
namespace Go.Proofs.Ytlbllonpodckgaa
open Go.RowKit Go.BigFrame
theorem contra_bad {xs : List Rule} (h : statutesB xs = false) : contraP xs = (0, 0, ⟨0, 0, 0⟩, 1) := by simp [contraP, h]
theorem contra_some {xs : List Rule} (h : statutesB xs = true) {i j : Int} {c : Case} (ho : outerP xs 0 = some (i, j, c)) : contraP xs = (i, j, c, 0) := by simp [contraP, h, ho]
theorem contra_none {xs : List Rule} (h : statutesB xs = true) (ho : outerP xs 0 = none) : contraP xs = (0, 0, ⟨0, 0, 0⟩, 4) := by simp [contraP, h, ho]
theorem hit_miss {a b : Rule} (h : (comP a b).isSome = false) : hitP a b = none := by
  unfold hitP
  split
  · rfl
  · cases hq : comP a b with
    | none => rfl
    | some c => rw [hq] at h; simp at h
theorem hit_same {a b : Rule} (h : a.outcome = b.outcome) : hitP a b = none := by unfold hitP; rw [if_pos h]
theorem hit_some {a b : Rule} {c : Case} (hc : comP a b = some c) (h : ¬ a.outcome = b.outcome) : hitP a b = some c := by unfold hitP; rw [if_neg h, hc]
theorem Rd.at'' {w : World} {B sz : Nat} {ad : Addr} {rows : List (List Value)} (h : Rd w B (some ad) sz rows) {k : Nat} {r : List Value} (hr : rows[k]? = some r) :
    ∀ (j : Nat) (v : Value), r[j]? = some v → w.cell? ((ad.add (k * sz)).add j) = some v := by
  obtain ⟨ad', e, _, _, hc⟩ := h.at' hr
  injection e with e
  subst e
  exact hc
end Go.Proofs.Ytlbllonpodckgaa
