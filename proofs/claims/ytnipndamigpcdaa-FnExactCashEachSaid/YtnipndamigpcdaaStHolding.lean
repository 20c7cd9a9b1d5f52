/- The helper functions of the laws for Holding: a copy, a comparison, marks. Each contract holds for every argument of the stated shape. -/
import Derived.Test.YtnipndamigpcdaaLaw
import Derived.Test.YtnipndamigpcdaaStPolicy
namespace Go.Proofs.Ytnipndamigpcdaa
open Go.RowKit Go.Deep

structure Holding where
  kind : Int
  age : Int
  years : Int
  sum : Int
  load : Int
  year : Int
  count : Int
def Holding.row (r : Holding) : List Value := [.int .i64 r.kind, .int .i64 r.age, .int .i64 r.years, .int .i64 r.sum, .int .i64 r.load, .int .i64 r.year, .int .i64 r.count]
def holdingRows (xs : List Holding) : List (List Value) := xs.map Holding.row
theorem holdingRows_get {xs : List Holding} {k : Nat} {x : Holding} (h : xs[k]? = some x) : (holdingRows xs)[k]? = some x.row := by simp [holdingRows, h]
theorem holdingRows_length (xs : List Holding) : (holdingRows xs).length = xs.length := by simp [holdingRows]
theorem holdingRows_all (xs : List Holding) : ∀ r ∈ holdingRows xs, r.length = 7 := by
  intro r hr; obtain ⟨x, _, rfl⟩ := List.mem_map.1 hr; rfl
theorem Holding.oneCell (x : Holding) : ∀ v ∈ x.row, v.oneCell' = true := by simp [Holding.row, Value.oneCell']
theorem Holding.info : (Try.prog.info? 30).map (fun i => (i.zero, i.size, i.bytes)) = some (some (.agg #[.int .i64 0, .int .i64 0, .int .i64 0, .int .i64 0, .int .i64 0, .int .i64 0, .int .i64 0]), 7, 56) := by kernel_rfl
theorem Holding.size : (Try.prog.info? 30).map (·.size) = some 7 := by kernel_rfl
theorem Holding.sizeL : (Try.prog.info? 25).map (·.size) = some 7 := by kernel_rfl

theorem Holding.cells {x : Holding} {w : World} {p : Addr} (hc : ∀ (j : Nat) (v : Value), x.row[j]? = some v → w.cell? (p.add j) = some v) : w.cell? p = some (.int .i64 x.kind) ∧ w.cell? ⟨p.block, p.off + 1, none⟩ = some (.int .i64 x.age) ∧ w.cell? ⟨p.block, p.off + 2, none⟩ = some (.int .i64 x.years) ∧ w.cell? ⟨p.block, p.off + 3, none⟩ = some (.int .i64 x.sum) ∧ w.cell? ⟨p.block, p.off + 4, none⟩ = some (.int .i64 x.load) ∧ w.cell? ⟨p.block, p.off + 5, none⟩ = some (.int .i64 x.year) ∧ w.cell? ⟨p.block, p.off + 6, none⟩ = some (.int .i64 x.count) := by
  refine ⟨by have := hc 0 _ rfl; rwa [Addr.add_zero'] at this, hc 1 _ rfl, hc 2 _ rfl, hc 3 _ rfl, hc 4 _ rfl, hc 5 _ rfl, hc 6 _ rfl⟩
def Holding.fits (x : Holding) : Prop := In64 x.kind ∧ In64 x.age ∧ In64 x.years ∧ In64 x.sum ∧ In64 x.load ∧ In64 x.year ∧ In64 x.count
theorem Holding.of_nums : ∀ (rows : List (List Int)), (∀ r ∈ rows, r.length = 7 ∧ ∀ z ∈ r, In64 z) → ∃ xs : List Holding, xs.length = rows.length ∧ holdingRows xs = numRows rows ∧ ∀ x ∈ xs, x.fits
  | [], _ => ⟨[], rfl, rfl, by simp⟩
  | q :: rest, h => by
    obtain ⟨xs, hl, hr, hf⟩ := Holding.of_nums rest fun r hr => h r (by simp [hr])
    obtain ⟨hq, hz⟩ := h q (by simp)
    match q, hq with
    | [z0, z1, z2, z3, z4, z5, z6], _ =>
      refine ⟨⟨z0, z1, z2, z3, z4, z5, z6⟩ :: xs, by simp [hl], by rw [holdingRows, List.map_cons, numRows, List.map_cons, ← numRows, ← hr]; rfl, fun x hx => ?_⟩
      rcases List.mem_cons.1 hx with rfl | hx
      · exact ⟨hz z0 (by simp), hz z1 (by simp), hz z2 (by simp), hz z3 (by simp), hz z4 (by simp), hz z5 (by simp), hz z6 (by simp)⟩
      · exact hf x hx
theorem Holding.of_num {zs : List Int} (hl : zs.length = 7) (hz : ∀ z ∈ zs, In64 z) : ∃ x : Holding, (zs.map (Value.int .i64)).toArray = x.row.toArray ∧ x.fits := by
  match zs, hl with
  | [z0, z1, z2, z3, z4, z5, z6], _ => exact ⟨⟨z0, z1, z2, z3, z4, z5, z6⟩, rfl, hz z0 (by simp), hz z1 (by simp), hz z2 (by simp), hz z3 (by simp), hz z4 (by simp), hz z5 (by simp), hz z6 (by simp)⟩

theorem Holding.intCells : IntCells Try.prog 25 7 := by
  refine intCells_struct Try.underlying25 (by kernel_rfl) fun j hj => ?_
  have h5 : Try.prog.cellsOf 23 = 5 := by kernel_rfl
  have h1 : Try.prog.cellsOf 2 = 1 := by kernel_rfl
  rcases (by omega : j < 5 ∨ j = 5 ∨ j = 6) with h | rfl | rfl
  · exact ⟨0, _, rfl, Nat.zero_le _, by show j < 0 + Try.prog.cellsOf 23; omega, by show IntCells Try.prog 23 (Try.prog.cellsOf 23); rw [h5]; exact Policy.intCells⟩
  · exact ⟨1, _, rfl, Nat.le_refl _, by show 5 < 5 + Try.prog.cellsOf 2; omega, by show IntCells Try.prog 2 (Try.prog.cellsOf 2); rw [h1]; exact intCells_int Try.underlying2⟩
  · exact ⟨2, _, rfl, Nat.le_refl _, by show 6 < 6 + Try.prog.cellsOf 2; omega, by show IntCells Try.prog 2 (Try.prog.cellsOf 2); rw [h1]; exact intCells_int Try.underlying2⟩

set_option maxHeartbeats 1000000 in
theorem toHolding_any (x : Holding) (w : World) :
    Calls Try.prog 9 #[.agg x.row.toArray] w fun e' w' => e' = .returned (.agg x.row.toArray) ∧ Below w.heap.size w w' := by
  unfold Holding.row
  go_enter Try.func9, Try.ntmps9
  go_wp2
  refine bodyPost_ret (v := .agg #[.int .i64 x.kind, .int .i64 x.age, .int .i64 x.years, .int .i64 x.sum, .int .i64 x.load]) (by simp [results, Try.results26, go_sem]) rfl ?_
  rename_i K hK
  refine hK _ _ ?_
  clear hK K
  go_wp2
  refine bodyPost_ret (v := .agg x.row.toArray) (by simp [results, Try.results9, go_sem, Holding.row]) rfl ⟨rfl, ?_⟩
  repeat (first | exact Below.refl _ _ | refine Below.alloc ?_ (by simp <;> omega) _ | refine Below.setCell ?_ (by simp <;> omega) _)






end Go.Proofs.Ytnipndamigpcdaa
