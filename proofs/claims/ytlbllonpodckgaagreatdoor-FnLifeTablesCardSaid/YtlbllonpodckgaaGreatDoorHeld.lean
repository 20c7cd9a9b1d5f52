/- Slices that are read in later worlds, many at once. -/
import Derived.Test.YtlbllonpodckgaaGreatDoorDraw
namespace Go.Proofs.YtlbllonpodckgaaGreatDoor
open Go.RowKit Go.BigFrame
def Held (w : World) (L : List (Option Addr × Nat × List (List Value))) : Prop := ∀ x ∈ L, Rd w w.heap.size x.1 x.2.1 x.2.2
theorem Held.nil (w : World) : Held w [] := by intro x hx; cases hx
section
variable {w w' : World} {L : List (Option Addr × Nat × List (List Value))} {A : Option Addr} {sz : Nat} {rows : List (List Value)}
theorem Held.past (h : Held w L) (hb : Below w.heap.size w w') : Held w' L := fun x hx => (h x hx).past hb
theorem Held.snoc (h : Held w L) (hr : Rd w w.heap.size A sz rows) : Held w (L ++ [(A, sz, rows)]) := by
  intro x hx
  rcases List.mem_append.1 hx with hx | hx
  · exact h x hx
  · simp only [List.mem_singleton] at hx; rw [hx]; exact hr
theorem Held.cons (h : Held w L) (hr : Rd w w.heap.size A sz rows) : Held w ((A, sz, rows) :: L) := by
  intro x hx
  rcases List.mem_cons.1 hx with hx | hx
  · rw [hx]; exact hr
  · exact h x hx
theorem Held.get (h : Held w L) (k : Nat) (e : L[k]? = some (A, sz, rows)) : Rd w w.heap.size A sz rows := h _ (List.mem_of_getElem? e)
end
theorem Blk.rd {w : World} {g : Nat} {t : TypeId} {r : List Value} (h : Blk w g t r.toArray) : Rd w w.heap.size (some ⟨g, 0, none⟩) r.length [r] := by
  refine .inr ⟨_, rfl, h.lt, fun k r' hk => ?_⟩
  have h0 : k = 0 := by have := (List.getElem?_eq_some_iff.1 hk).1; simp at this; exact this
  subst h0
  simp only [List.getElem?_cons_zero, Option.some.injEq] at hk
  subst hk
  exact ⟨rfl, fun j v hv => by rw [add_none, h.cell]; simpa using hv⟩
/-- the cells of the one row of a box -/
theorem Rd.box {w : World} {B : Nat} {g sz : Nat} {r : List Value} (h : Rd w B (some ⟨g, 0, none⟩) sz [r]) : ∀ (j : Nat) (v : Value), r[j]? = some v → w.cell? ((⟨g, 0, none⟩ : Addr).add j) = some v := by
  intro j v hv
  rcases h with h | ⟨ad, e, _, hc⟩
  · cases h
  · injection e with e; subst e
    have := (hc 0 r rfl).2 j v hv
    simpa using this
theorem res_cap {w : World} {B t sz n cap : Nat} {A : Option Addr} {rows : List (List Value)} (h : Res B w t sz A n cap rows) : n ≤ cap := by
  rcases h.own.2 with ⟨h1, h2⟩ | ⟨g, c, cur, e, _, _, hnc, _⟩
  · simp only [Value.slice.injEq] at h1; omega
  · simp only [Value.slice.injEq] at e; omega
theorem Rd.boxT {w : World} {B g sz : Nat} {a b c : Value} (h : Rd w B (some ⟨g, 0, none⟩) sz [[a, b, c]]) : ∀ (j : Nat) (v : Value), [a, b][j]? = some v → w.cell? ((⟨g, 0, none⟩ : Addr).add j) = some v := fun j v hv => Rd.box h j v (by
  match j, hv with
  | 0, hv => simpa using hv
  | 1, hv => simpa using hv)
theorem below_all {w0 w1 w2 : World} (h : Below w0.heap.size w0 w1) (hb : Below w1.heap.size w1 w2) : Below w0.heap.size w0 w2 := h.trans (hb.mono h.size)
end Go.Proofs.YtlbllonpodckgaaGreatDoor
