/- The helper functions of the laws for Entry: a copy, a comparison, marks. Each contract holds for every argument of the stated shape. -/
import Derived.Test.YtoabhnobgdjgkaaLaw
namespace Go.Proofs.Ytoabhnobgdjgkaa
open Go.RowKit Go.Deep Go.BigFrame

structure Entry where
  month : Int
  debit : Int
  credit : Int
  amount : Int
def Entry.row (r : Entry) : List Value := [.int .i64 r.month, .int .i64 r.debit, .int .i64 r.credit, .int .i64 r.amount]
def entryRows (xs : List Entry) : List (List Value) := xs.map Entry.row
theorem entryRows_get {xs : List Entry} {k : Nat} {x : Entry} (h : xs[k]? = some x) : (entryRows xs)[k]? = some x.row := by simp [entryRows, h]
theorem entryRows_length (xs : List Entry) : (entryRows xs).length = xs.length := by simp [entryRows]
theorem entryRows_all (xs : List Entry) : ∀ r ∈ entryRows xs, r.length = 4 := by
  intro r hr; obtain ⟨x, _, rfl⟩ := List.mem_map.1 hr; rfl
theorem Entry.oneCell (x : Entry) : ∀ v ∈ x.row, v.oneCell' = true := by simp [Entry.row, Value.oneCell']
theorem Entry.info : (Try.prog.info? 56).map (fun i => (i.zero, i.size, i.bytes)) = some (some (.agg #[.int .i64 0, .int .i64 0, .int .i64 0, .int .i64 0]), 4, 32) := by kernel_rfl
theorem Entry.size : (Try.prog.info? 56).map (·.size) = some 4 := by kernel_rfl

theorem Entry.cells {x : Entry} {w : World} {p : Addr} (hc : ∀ (j : Nat) (v : Value), x.row[j]? = some v → w.cell? (p.add j) = some v) : w.cell? p = some (.int .i64 x.month) ∧ w.cell? ⟨p.block, p.off + 1, none⟩ = some (.int .i64 x.debit) ∧ w.cell? ⟨p.block, p.off + 2, none⟩ = some (.int .i64 x.credit) ∧ w.cell? ⟨p.block, p.off + 3, none⟩ = some (.int .i64 x.amount) := by
  refine ⟨by have := hc 0 _ rfl; rwa [Addr.add_zero'] at this, hc 1 _ rfl, hc 2 _ rfl, hc 3 _ rfl⟩
def Entry.fits (x : Entry) : Prop := In64 x.month ∧ In64 x.debit ∧ In64 x.credit ∧ In64 x.amount
theorem Entry.of_nums : ∀ (rows : List (List Int)), (∀ r ∈ rows, r.length = 4 ∧ ∀ z ∈ r, In64 z) → ∃ xs : List Entry, xs.length = rows.length ∧ entryRows xs = numRows rows ∧ ∀ x ∈ xs, x.fits
  | [], _ => ⟨[], rfl, rfl, by simp⟩
  | q :: rest, h => by
    obtain ⟨xs, hl, hr, hf⟩ := Entry.of_nums rest fun r hr => h r (by simp [hr])
    obtain ⟨hq, hz⟩ := h q (by simp)
    match q, hq with
    | [z0, z1, z2, z3], _ =>
      refine ⟨⟨z0, z1, z2, z3⟩ :: xs, by simp [hl], by rw [entryRows, List.map_cons, numRows, List.map_cons, ← numRows, ← hr]; rfl, fun x hx => ?_⟩
      rcases List.mem_cons.1 hx with rfl | hx
      · exact ⟨hz z0 (by simp), hz z1 (by simp), hz z2 (by simp), hz z3 (by simp)⟩
      · exact hf x hx
theorem Entry.of_num {zs : List Int} (hl : zs.length = 4) (hz : ∀ z ∈ zs, In64 z) : ∃ x : Entry, (zs.map (Value.int .i64)).toArray = x.row.toArray ∧ x.fits := by
  match zs, hl with
  | [z0, z1, z2, z3], _ => exact ⟨⟨z0, z1, z2, z3⟩, rfl, hz z0 (by simp), hz z1 (by simp), hz z2 (by simp), hz z3 (by simp)⟩









end Go.Proofs.Ytoabhnobgdjgkaa
