/- The helper functions of the laws for Policy: a copy, a comparison, marks. Each contract holds for every argument of the stated shape. -/
import Derived.Test.YthcnkcoplgdlkaaLaw
namespace Go.Proofs.Ythcnkcoplgdlkaa
open Go.RowKit Go.Deep

structure Policy where
  kind : Int
  age : Int
  years : Int
  sum : Int
  load : Int
def Policy.row (r : Policy) : List Value := [.int .i64 r.kind, .int .i64 r.age, .int .i64 r.years, .int .i64 r.sum, .int .i64 r.load]
def policyRows (xs : List Policy) : List (List Value) := xs.map Policy.row
theorem policyRows_get {xs : List Policy} {k : Nat} {x : Policy} (h : xs[k]? = some x) : (policyRows xs)[k]? = some x.row := by simp [policyRows, h]
theorem policyRows_length (xs : List Policy) : (policyRows xs).length = xs.length := by simp [policyRows]
theorem policyRows_all (xs : List Policy) : ∀ r ∈ policyRows xs, r.length = 5 := by
  intro r hr; obtain ⟨x, _, rfl⟩ := List.mem_map.1 hr; rfl
theorem Policy.oneCell (x : Policy) : ∀ v ∈ x.row, v.oneCell' = true := by simp [Policy.row, Value.oneCell']
theorem Policy.info : (Try.prog.info? 44).map (fun i => (i.zero, i.size, i.bytes)) = some (some (.agg #[.int .i64 0, .int .i64 0, .int .i64 0, .int .i64 0, .int .i64 0]), 5, 40) := by kernel_rfl
theorem Policy.size : (Try.prog.info? 44).map (·.size) = some 5 := by kernel_rfl
theorem Policy.sizeL : (Try.prog.info? 145).map (·.size) = some 5 := by kernel_rfl

theorem Policy.cells {x : Policy} {w : World} {p : Addr} (hc : ∀ (j : Nat) (v : Value), x.row[j]? = some v → w.cell? (p.add j) = some v) : w.cell? p = some (.int .i64 x.kind) ∧ w.cell? ⟨p.block, p.off + 1, none⟩ = some (.int .i64 x.age) ∧ w.cell? ⟨p.block, p.off + 2, none⟩ = some (.int .i64 x.years) ∧ w.cell? ⟨p.block, p.off + 3, none⟩ = some (.int .i64 x.sum) ∧ w.cell? ⟨p.block, p.off + 4, none⟩ = some (.int .i64 x.load) := by
  refine ⟨by have := hc 0 _ rfl; rwa [Addr.add_zero'] at this, hc 1 _ rfl, hc 2 _ rfl, hc 3 _ rfl, hc 4 _ rfl⟩
def Policy.fits (x : Policy) : Prop := In64 x.kind ∧ In64 x.age ∧ In64 x.years ∧ In64 x.sum ∧ In64 x.load
theorem Policy.of_nums : ∀ (rows : List (List Int)), (∀ r ∈ rows, r.length = 5 ∧ ∀ z ∈ r, In64 z) → ∃ xs : List Policy, xs.length = rows.length ∧ policyRows xs = numRows rows ∧ ∀ x ∈ xs, x.fits
  | [], _ => ⟨[], rfl, rfl, by simp⟩
  | q :: rest, h => by
    obtain ⟨xs, hl, hr, hf⟩ := Policy.of_nums rest fun r hr => h r (by simp [hr])
    obtain ⟨hq, hz⟩ := h q (by simp)
    match q, hq with
    | [z0, z1, z2, z3, z4], _ =>
      refine ⟨⟨z0, z1, z2, z3, z4⟩ :: xs, by simp [hl], by rw [policyRows, List.map_cons, numRows, List.map_cons, ← numRows, ← hr]; rfl, fun x hx => ?_⟩
      rcases List.mem_cons.1 hx with rfl | hx
      · exact ⟨hz z0 (by simp), hz z1 (by simp), hz z2 (by simp), hz z3 (by simp), hz z4 (by simp)⟩
      · exact hf x hx
theorem Policy.of_num {zs : List Int} (hl : zs.length = 5) (hz : ∀ z ∈ zs, In64 z) : ∃ x : Policy, (zs.map (Value.int .i64)).toArray = x.row.toArray ∧ x.fits := by
  match zs, hl with
  | [z0, z1, z2, z3, z4], _ => exact ⟨⟨z0, z1, z2, z3, z4⟩, rfl, hz z0 (by simp), hz z1 (by simp), hz z2 (by simp), hz z3 (by simp), hz z4 (by simp)⟩

theorem Policy.intCells : IntCells Try.prog 145 5 := by
  refine intCells_flat Try.underlying145 (by kernel_rfl) Try.underlying2 (by kernel_rfl) fun j hj => ?_
  rcases (by omega : j = 0 ∨ j = 1 ∨ j = 2 ∨ j = 3 ∨ j = 4) with rfl | rfl | rfl | rfl | rfl
  all_goals exact ⟨_, rfl, rfl, rfl⟩

theorem toPolicy_any (x : Policy) (w : World) :
    Calls Try.prog 189 #[.agg x.row.toArray] w fun e' w' => e' = .returned (.agg x.row.toArray) ∧ Below w.heap.size w w' := by
  unfold Policy.row
  go_enter Try.func189, Try.ntmps189
  go_wp2
  refine bodyPost_ret (v := .agg x.row.toArray) (by simp [results, Try.results189, go_sem, Policy.row]) rfl ⟨rfl, ?_⟩
  exact (((Below.refl _ _).alloc (Nat.le_refl _) _).alloc (by simp) _).alloc (by simp; omega) _

theorem eqPolicy_any (x : Policy) (w : World) :
    Calls Try.prog 190 #[.agg x.row.toArray, .agg x.row.toArray] w fun e' w' => e' = .returned (.bool true) ∧ Below w.heap.size w w' := by
  unfold Policy.row
  go_enter Try.func190, Try.ntmps190
  go_wp2
  go_ret
  exact ⟨rfl, ((Below.refl _ _).alloc (Nat.le_refl _) _).alloc (by simp) _⟩






end Go.Proofs.Ythcnkcoplgdlkaa
