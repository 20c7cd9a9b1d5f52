/- More words for memory: structs loaded inside regions that draw their order; boxes behind later worlds; the first element with a property. No condition. -/
import Derived.Test.YtnipndamigpcdaaBase
namespace Go.Proofs.Ytnipndamigpcdaa
open Go.RowKit Go.BigFrame
theorem quiet_load_agg {P : Program} {C : World → Prop} {K : Act → Prop} {a : Act} {o : Oper} (ty : TypeId) (x : Operand) (ho : o.op = .load ty x)
    (p : Addr) (hx : a.eval x = .pointer (some p)) (cs : List Value) (hc : ∀ w, C w → ∀ (j : Nat) (v : Value), cs[j]? = some v → w.cell? (p.add j) = some v) (d : TypeDesc)
    (hu : P.underlying ty = some d) (hd : (match d with | .struct _ | .array _ _ => true | _ => false) = true) (hi : (P.info? ty).map (·.size) = some cs.length)
    (h : K (a.put o.dst (.agg cs.toArray))) : o.quiet P a C K :=
  ⟨_, fun w hw => by
    unfold Oper.quietAt execOp
    simp only [ho, hx, Instr.loadAt, Instr.sureAddr, Sem.run_bind, Sem.run_pure, Result.andThen_ok, run_loadVar_agg w ty p cs d (hc w hw) hu hd hi]
    exact ⟨rfl, rfl⟩, h⟩
theorem box_cells {w wr : World} {row : List Value} {t : TypeId} (h : Below (w.heap.size + 1) (w.alloc (.cells row.toArray t)) wr) :
    ∀ (j : Nat) (v : Value), row[j]? = some v → wr.cell? ((⟨w.heap.size, 0, none⟩ : Addr).add j) = some v := by
  intro j v hv
  rw [add_none, h.cell (p := ⟨w.heap.size, 0 + j, none⟩) (by simp), (Blk.new w t _).cell]
  simpa using hv
theorem cells_alloc {wr : World} {row : List Value} {p : Addr} (h : ∀ (j : Nat) (v : Value), row[j]? = some v → wr.cell? (p.add j) = some v) (hp : p.block < wr.heap.size) (o : Obj) :
    ∀ (j : Nat) (v : Value), row[j]? = some v → (wr.alloc o).cell? (p.add j) = some v :=
  fun j v hv => (World.cell?_alloc_lt wr o _ (by rw [block_of_add]; exact hp)).trans (h j v hv)
theorem Past.cells {wr : World} {row : List Value} {p : Addr} (h : ∀ (j : Nat) (v : Value), row[j]? = some v → wr.cell? (p.add j) = some v) (y : Past wr) :
    ∀ (j : Nat) (v : Value), row[j]? = some v → y.1.cell? (p.add j) = some v := fun j v hv => Past.cell (h j v hv) y
theorem Past.cells' {wr : World} {row : List Value} {p : Addr} (h : ∀ (j : Nat) (v : Value), row[j]? = some v → wr.cell? (p.add j) = some v) :
    ∀ w', (∃ y : Past wr, w' = y.1) → ∀ (j : Nat) (v : Value), row[j]? = some v → w'.cell? (p.add j) = some v := by
  rintro _ ⟨y, rfl⟩; exact Past.cells h y
theorem find_stop {α : Type} {p : α → Bool} {xs : List α} {k : Nat} {x : α} (h : (xs.take k).any p = false) (hx : xs[k]? = some x) (hp : p x = true) : xs.findIdx? p = some k := by
  have hk := (List.getElem?_eq_some_iff.1 hx).1
  rw [List.findIdx?_eq_some_iff_getElem]
  refine ⟨hk, by rw [(List.getElem?_eq_some_iff.1 hx).2]; exact hp, fun j hj => ?_⟩
  have : xs[j] ∈ xs.take k := by rw [List.mem_iff_getElem]; exact ⟨j, by simp; omega, by simp⟩
  simpa using List.any_eq_false.1 h _ this
theorem find_end {α : Type} {p : α → Bool} {xs : List α} {n : Nat} (hl : xs.length = n) (h : (xs.take n).any p = false) : xs.findIdx? p = none := by
  rw [List.findIdx?_eq_none_iff]
  intro x hx
  rw [List.take_of_length_le (by omega)] at h
  simpa using List.any_eq_false.1 h x hx
theorem find_get {α : Type} {p : α → Bool} {xs : List α} {k : Nat} (h : xs.findIdx? p = some k) : ∃ x, xs[k]? = some x ∧ p x = true := by
  obtain ⟨hk, h1, _⟩ := List.findIdx?_eq_some_iff_getElem.1 h
  exact ⟨xs[k], List.getElem?_eq_getElem hk, h1⟩
end Go.Proofs.Ytnipndamigpcdaa
