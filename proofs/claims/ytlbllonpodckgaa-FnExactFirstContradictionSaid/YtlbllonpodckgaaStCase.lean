/- The helper functions of the laws for Case: a copy, a comparison, marks. Each contract holds for every argument of the stated shape. -/
import Derived.Test.YtlbllonpodckgaaLaw
namespace Go.Proofs.Ytlbllonpodckgaa
open Go.RowKit Go.Deep Go.BigFrame

structure Case where
  age : Int
  years : Int
  kind : Int
def Case.row (r : Case) : List Value := [.int .i64 r.age, .int .i64 r.years, .int .i64 r.kind]
def caseRows (xs : List Case) : List (List Value) := xs.map Case.row
theorem caseRows_get {xs : List Case} {k : Nat} {x : Case} (h : xs[k]? = some x) : (caseRows xs)[k]? = some x.row := by simp [caseRows, h]
theorem caseRows_length (xs : List Case) : (caseRows xs).length = xs.length := by simp [caseRows]
theorem caseRows_all (xs : List Case) : ∀ r ∈ caseRows xs, r.length = 3 := by
  intro r hr; obtain ⟨x, _, rfl⟩ := List.mem_map.1 hr; rfl
theorem Case.oneCell (x : Case) : ∀ v ∈ x.row, v.oneCell' = true := by simp [Case.row, Value.oneCell']
theorem Case.info : (Try.prog.info? 25).map (fun i => (i.zero, i.size, i.bytes)) = some (some (.agg #[.int .i64 0, .int .i64 0, .int .i64 0]), 3, 24) := by kernel_rfl
theorem Case.size : (Try.prog.info? 25).map (·.size) = some 3 := by kernel_rfl

theorem Case.cells {x : Case} {w : World} {p : Addr} (hc : ∀ (j : Nat) (v : Value), x.row[j]? = some v → w.cell? (p.add j) = some v) : w.cell? p = some (.int .i64 x.age) ∧ w.cell? ⟨p.block, p.off + 1, none⟩ = some (.int .i64 x.years) ∧ w.cell? ⟨p.block, p.off + 2, none⟩ = some (.int .i64 x.kind) := by
  refine ⟨by have := hc 0 _ rfl; rwa [Addr.add_zero'] at this, hc 1 _ rfl, hc 2 _ rfl⟩
def Case.fits (x : Case) : Prop := In64 x.age ∧ In64 x.years ∧ In64 x.kind
theorem Case.of_nums : ∀ (rows : List (List Int)), (∀ r ∈ rows, r.length = 3 ∧ ∀ z ∈ r, In64 z) → ∃ xs : List Case, xs.length = rows.length ∧ caseRows xs = numRows rows ∧ ∀ x ∈ xs, x.fits
  | [], _ => ⟨[], rfl, rfl, by simp⟩
  | q :: rest, h => by
    obtain ⟨xs, hl, hr, hf⟩ := Case.of_nums rest fun r hr => h r (by simp [hr])
    obtain ⟨hq, hz⟩ := h q (by simp)
    match q, hq with
    | [z0, z1, z2], _ =>
      refine ⟨⟨z0, z1, z2⟩ :: xs, by simp [hl], by rw [caseRows, List.map_cons, numRows, List.map_cons, ← numRows, ← hr]; rfl, fun x hx => ?_⟩
      rcases List.mem_cons.1 hx with rfl | hx
      · exact ⟨hz z0 (by simp), hz z1 (by simp), hz z2 (by simp)⟩
      · exact hf x hx
theorem Case.of_num {zs : List Int} (hl : zs.length = 3) (hz : ∀ z ∈ zs, In64 z) : ∃ x : Case, (zs.map (Value.int .i64)).toArray = x.row.toArray ∧ x.fits := by
  match zs, hl with
  | [z0, z1, z2], _ => exact ⟨⟨z0, z1, z2⟩, rfl, hz z0 (by simp), hz z1 (by simp), hz z2 (by simp)⟩



theorem eqCase_any (x : Case) (w : World) :
    Calls Try.prog 10 #[.agg x.row.toArray, .agg x.row.toArray] w fun e' w' => e' = .returned (.bool true) ∧ Below w.heap.size w w' := by
  unfold Case.row
  go_enter Try.func10, Try.ntmps10
  go_wp2
  go_ret
  exact ⟨rfl, ((Below.refl _ _).alloc (Nat.le_refl _) _).alloc (by simp) _⟩






end Go.Proofs.Ytlbllonpodckgaa
