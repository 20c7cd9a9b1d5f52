/- The helper functions of the laws for Scenario: a copy, a comparison, marks. Each contract holds for every argument of the stated shape. -/
import Derived.Test.YtkpppajihgnkcaaLaw
namespace Go.Proofs.Ytkpppajihgnkcaa
open Go.RowKit Go.Deep Go.BigFrame

structure Scenario where
  rate : Int
  death : Int
def Scenario.row (r : Scenario) : List Value := [.int .i64 r.rate, .int .i64 r.death]
def scenarioRows (xs : List Scenario) : List (List Value) := xs.map Scenario.row
theorem scenarioRows_get {xs : List Scenario} {k : Nat} {x : Scenario} (h : xs[k]? = some x) : (scenarioRows xs)[k]? = some x.row := by simp [scenarioRows, h]
theorem scenarioRows_length (xs : List Scenario) : (scenarioRows xs).length = xs.length := by simp [scenarioRows]
theorem scenarioRows_all (xs : List Scenario) : ∀ r ∈ scenarioRows xs, r.length = 2 := by
  intro r hr; obtain ⟨x, _, rfl⟩ := List.mem_map.1 hr; rfl
theorem Scenario.oneCell (x : Scenario) : ∀ v ∈ x.row, v.oneCell' = true := by simp [Scenario.row, Value.oneCell']
theorem Scenario.info : (Try.prog.info? 43).map (fun i => (i.zero, i.size, i.bytes)) = some (some (.agg #[.int .i64 0, .int .i64 0]), 2, 16) := by kernel_rfl
theorem Scenario.size : (Try.prog.info? 43).map (·.size) = some 2 := by kernel_rfl
theorem Scenario.sizeL : (Try.prog.info? 36).map (·.size) = some 2 := by kernel_rfl

theorem Scenario.cells {x : Scenario} {w : World} {p : Addr} (hc : ∀ (j : Nat) (v : Value), x.row[j]? = some v → w.cell? (p.add j) = some v) : w.cell? p = some (.int .i64 x.rate) ∧ w.cell? ⟨p.block, p.off + 1, none⟩ = some (.int .i64 x.death) := by
  refine ⟨by have := hc 0 _ rfl; rwa [Addr.add_zero'] at this, hc 1 _ rfl⟩
def Scenario.fits (x : Scenario) : Prop := In64 x.rate ∧ In64 x.death
theorem Scenario.of_nums : ∀ (rows : List (List Int)), (∀ r ∈ rows, r.length = 2 ∧ ∀ z ∈ r, In64 z) → ∃ xs : List Scenario, xs.length = rows.length ∧ scenarioRows xs = numRows rows ∧ ∀ x ∈ xs, x.fits
  | [], _ => ⟨[], rfl, rfl, by simp⟩
  | q :: rest, h => by
    obtain ⟨xs, hl, hr, hf⟩ := Scenario.of_nums rest fun r hr => h r (by simp [hr])
    obtain ⟨hq, hz⟩ := h q (by simp)
    match q, hq with
    | [z0, z1], _ =>
      refine ⟨⟨z0, z1⟩ :: xs, by simp [hl], by rw [scenarioRows, List.map_cons, numRows, List.map_cons, ← numRows, ← hr]; rfl, fun x hx => ?_⟩
      rcases List.mem_cons.1 hx with rfl | hx
      · exact ⟨hz z0 (by simp), hz z1 (by simp)⟩
      · exact hf x hx
theorem Scenario.of_num {zs : List Int} (hl : zs.length = 2) (hz : ∀ z ∈ zs, In64 z) : ∃ x : Scenario, (zs.map (Value.int .i64)).toArray = x.row.toArray ∧ x.fits := by
  match zs, hl with
  | [z0, z1], _ => exact ⟨⟨z0, z1⟩, rfl, hz z0 (by simp), hz z1 (by simp)⟩

theorem Scenario.intCells : IntCells Try.prog 36 2 := by
  refine intCells_flat Try.underlying36 (by kernel_rfl) Try.underlying2 (by kernel_rfl) fun j hj => ?_
  rcases (by omega : j = 0 ∨ j = 1) with rfl | rfl
  all_goals exact ⟨_, rfl, rfl, rfl⟩

theorem toScenario_any (x : Scenario) (w : World) :
    Calls Try.prog 25 #[.agg x.row.toArray] w fun e' w' => e' = .returned (.agg x.row.toArray) ∧ Below w.heap.size w w' := by
  unfold Scenario.row
  go_enter Try.func25, Try.ntmps25
  go_wp2
  refine bodyPost_ret (v := .agg x.row.toArray) (by simp [results, Try.results25, go_sem, Scenario.row]) rfl ⟨rfl, ?_⟩
  exact (((Below.refl _ _).alloc (Nat.le_refl _) _).alloc (by simp) _).alloc (by simp; omega) _







end Go.Proofs.Ytkpppajihgnkcaa
