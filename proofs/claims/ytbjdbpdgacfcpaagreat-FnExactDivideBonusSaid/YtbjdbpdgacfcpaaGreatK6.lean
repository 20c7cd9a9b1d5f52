/- Parts of a proof, one after another: StHolding, PolP, StScenario, ChgP, Life. No condition. -/
import Derived.Test.YtbjdbpdgacfcpaaGreatK0
import Derived.Test.YtbjdbpdgacfcpaaGreatK1
import Derived.Test.YtbjdbpdgacfcpaaGreatK2
import Derived.Test.YtbjdbpdgacfcpaaGreatK5
/- The helper functions of the laws for Holding: a copy, a comparison, marks. Each contract holds for every argument of the stated shape. -/
section
namespace Go.Proofs.YtbjdbpdgacfcpaaGreat
open Go.RowKit Go.Deep

structure Holding where
  kind : Int
  age : Int
  years : Int
  sum : Int
  load : Int
  year : Int
  count : Int
def Holding.row (r : Holding) : List Value := [.int .i64 r.kind, .int .i64 r.age, .int .i64 r.years, .int .i64 r.sum, .int .i64 r.load, .int .i64 r.year, .int .i64 r.count]
def holdingRows (xs : List Holding) : List (List Value) := xs.map Holding.row
theorem holdingRows_get {xs : List Holding} {k : Nat} {x : Holding} (h : xs[k]? = some x) : (holdingRows xs)[k]? = some x.row := by simp [holdingRows, h]
theorem holdingRows_length (xs : List Holding) : (holdingRows xs).length = xs.length := by simp [holdingRows]
theorem holdingRows_all (xs : List Holding) : ∀ r ∈ holdingRows xs, r.length = 7 := by
  intro r hr; obtain ⟨x, _, rfl⟩ := List.mem_map.1 hr; rfl
theorem Holding.oneCell (x : Holding) : ∀ v ∈ x.row, v.oneCell' = true := by simp [Holding.row, Value.oneCell']
theorem Holding.info : (Tryz.prog.info? 90).map (fun i => (i.zero, i.size, i.bytes)) = some (some (.agg #[.int .i64 0, .int .i64 0, .int .i64 0, .int .i64 0, .int .i64 0, .int .i64 0, .int .i64 0]), 7, 56) := by kernel_rfl
theorem Holding.size : (Tryz.prog.info? 90).map (·.size) = some 7 := by kernel_rfl
theorem Holding.sizeL : (Tryz.prog.info? 133).map (·.size) = some 7 := by kernel_rfl

theorem Holding.cells {x : Holding} {w : World} {p : Addr} (hc : ∀ (j : Nat) (v : Value), x.row[j]? = some v → w.cell? (p.add j) = some v) : w.cell? p = some (.int .i64 x.kind) ∧ w.cell? ⟨p.block, p.off + 1, none⟩ = some (.int .i64 x.age) ∧ w.cell? ⟨p.block, p.off + 2, none⟩ = some (.int .i64 x.years) ∧ w.cell? ⟨p.block, p.off + 3, none⟩ = some (.int .i64 x.sum) ∧ w.cell? ⟨p.block, p.off + 4, none⟩ = some (.int .i64 x.load) ∧ w.cell? ⟨p.block, p.off + 5, none⟩ = some (.int .i64 x.year) ∧ w.cell? ⟨p.block, p.off + 6, none⟩ = some (.int .i64 x.count) := by
  refine ⟨by have := hc 0 _ rfl; rwa [Addr.add_zero'] at this, hc 1 _ rfl, hc 2 _ rfl, hc 3 _ rfl, hc 4 _ rfl, hc 5 _ rfl, hc 6 _ rfl⟩
def Holding.fits (x : Holding) : Prop := In64 x.kind ∧ In64 x.age ∧ In64 x.years ∧ In64 x.sum ∧ In64 x.load ∧ In64 x.year ∧ In64 x.count
theorem Holding.of_nums : ∀ (rows : List (List Int)), (∀ r ∈ rows, r.length = 7 ∧ ∀ z ∈ r, In64 z) → ∃ xs : List Holding, xs.length = rows.length ∧ holdingRows xs = numRows rows ∧ ∀ x ∈ xs, x.fits
  | [], _ => ⟨[], rfl, rfl, by simp⟩
  | q :: rest, h => by
    obtain ⟨xs, hl, hr, hf⟩ := Holding.of_nums rest fun r hr => h r (by simp [hr])
    obtain ⟨hq, hz⟩ := h q (by simp)
    match q, hq with
    | [z0, z1, z2, z3, z4, z5, z6], _ =>
      refine ⟨⟨z0, z1, z2, z3, z4, z5, z6⟩ :: xs, by simp [hl], by rw [holdingRows, List.map_cons, numRows, List.map_cons, ← numRows, ← hr]; rfl, fun x hx => ?_⟩
      rcases List.mem_cons.1 hx with rfl | hx
      · exact ⟨hz z0 (by simp), hz z1 (by simp), hz z2 (by simp), hz z3 (by simp), hz z4 (by simp), hz z5 (by simp), hz z6 (by simp)⟩
      · exact hf x hx
theorem Holding.of_num {zs : List Int} (hl : zs.length = 7) (hz : ∀ z ∈ zs, In64 z) : ∃ x : Holding, (zs.map (Value.int .i64)).toArray = x.row.toArray ∧ x.fits := by
  match zs, hl with
  | [z0, z1, z2, z3, z4, z5, z6], _ => exact ⟨⟨z0, z1, z2, z3, z4, z5, z6⟩, rfl, hz z0 (by simp), hz z1 (by simp), hz z2 (by simp), hz z3 (by simp), hz z4 (by simp), hz z5 (by simp), hz z6 (by simp)⟩

set_option maxRecDepth 100000 in
theorem Holding.intCells : IntCells Tryz.prog 133 7 := by
  refine intCells_struct Tryz.underlying133 (by kernel_rfl) fun j hj => ?_
  have h5 : Tryz.prog.cellsOf 131 = 5 := by kernel_rfl
  have h1 : Tryz.prog.cellsOf 2 = 1 := by kernel_rfl
  rcases (by omega : j < 5 ∨ j = 5 ∨ j = 6) with h | rfl | rfl
  · exact ⟨0, _, rfl, Nat.zero_le _, by show j < 0 + Tryz.prog.cellsOf 131; omega, by show IntCells Tryz.prog 131 (Tryz.prog.cellsOf 131); rw [h5]; exact Policy.intCells⟩
  · exact ⟨1, _, rfl, Nat.le_refl _, by show 5 < 5 + Tryz.prog.cellsOf 2; omega, by show IntCells Tryz.prog 2 (Tryz.prog.cellsOf 2); rw [h1]; exact intCells_int Tryz.underlying2⟩
  · exact ⟨2, _, rfl, Nat.le_refl _, by show 6 < 6 + Tryz.prog.cellsOf 2; omega, by show IntCells Tryz.prog 2 (Tryz.prog.cellsOf 2); rw [h1]; exact intCells_int Tryz.underlying2⟩

set_option maxHeartbeats 1000000 in
theorem toHolding_any (x : Holding) (w : World) :
    Calls Tryz.prog 122 #[.agg x.row.toArray] w fun e' w' => e' = .returned (.agg x.row.toArray) ∧ Below w.heap.size w w' := by
  unfold Holding.row
  go_enter Tryz.func122, Tryz.ntmps122
  go_wp2
  refine bodyPost_ret (v := .agg #[.int .i64 x.kind, .int .i64 x.age, .int .i64 x.years, .int .i64 x.sum, .int .i64 x.load]) (by simp [results, Tryz.results157, go_sem]) rfl ?_
  rename_i K hK
  refine hK _ _ ?_
  clear hK K
  go_wp2
  refine bodyPost_ret (v := .agg x.row.toArray) (by simp [results, Tryz.results122, go_sem, Holding.row]) rfl ⟨rfl, ?_⟩
  repeat (first | exact Below.refl _ _ | refine Below.alloc ?_ (by simp <;> omega) _ | refine Below.setCell ?_ (by simp <;> omega) _)

theorem eqHolding_any (x : Holding) (w : World) :
    Calls Tryz.prog 128 #[.agg x.row.toArray, .agg x.row.toArray] w fun e' w' => e' = .returned (.bool true) ∧ Below w.heap.size w w' := by
  have hb0 : Below w.heap.size w ((w.alloc (.cells x.row.toArray 90)).alloc (.cells x.row.toArray 90)) := ((Below.refl _ w).alloc (Nat.le_refl _) _).alloc (by simp) _
  have B1 := Lib.hid ((Blk.new w 90 x.row.toArray).alloc (.cells x.row.toArray 90))
  have B2 := Lib.hid (Blk.new (w.alloc (.cells x.row.toArray 90)) 90 x.row.toArray)
  rw [World.size_alloc] at B2
  unfold Holding.row at *
  go_enter Tryz.func128, Tryz.ntmps128
  go_wp2_with fail
  refine (eqPolicy_any ⟨x.kind, x.age, x.years, x.sum, x.load⟩ _).mono ?_
  rintro e w1 ⟨rfl, hb1⟩
  have c5 : w1.cell? ⟨w.heap.size, 5, none⟩ = some (.int .i64 x.year) := (B1.out.below' hb1).cell 5
  have c6 : w1.cell? ⟨w.heap.size, 6, none⟩ = some (.int .i64 x.count) := (B1.out.below' hb1).cell 6
  have d5 : w1.cell? ⟨w.heap.size + 1, 5, none⟩ = some (.int .i64 x.year) := (B2.out.below' hb1).cell 5
  have d6 : w1.cell? ⟨w.heap.size + 1, 6, none⟩ = some (.int .i64 x.count) := (B2.out.below' hb1).cell 6
  go_wp2
  go_ret
  exact ⟨rfl, hb0.trans (hb1.mono hb0.size)⟩

theorem szHoldingS_yes (A : Option Addr) (n cap : Nat) (left : Int) (w : World) (h0 : (n : Int) ≤ left) (h1 : left ≤ 1048576) :
    Calls Tryz.prog 49 #[.slice A n cap, .int .i64 left] w fun e' w' => e' = .returned (.int .i64 (left - (n : Int))) ∧ w = w' := by
  have h2 : ¬ (left - (n : Int) < 0) := by omega
  go_enter Tryz.func49, Tryz.ntmps49
  go_wp2
  go_ret
  exact ⟨rfl, rfl⟩
theorem szHoldingS_no (A : Option Addr) (n cap : Nat) (left : Int) (w : World) (hn : n ≤ 9223372036854775807) (h0 : left < (n : Int)) (h1 : 0 ≤ left) (h2' : left ≤ 1048576) :
    Calls Tryz.prog 49 #[.slice A n cap, .int .i64 left] w fun e' w' => e' = .returned (.int .i64 (-1)) ∧ w = w' := by
  have h2 : (left - (n : Int) < 0) := by omega
  go_enter Tryz.func49, Tryz.ntmps49
  go_wp2
  go_ret
  exact ⟨rfl, rfl⟩

set_option maxHeartbeats 400000 in
theorem toHoldingS_any (A : Option Addr) (n cap : Nat) (xs : List Holding) (w : World) (hn : n ≤ 1048576) (hl : xs.length = n) (hX : Rd w w.heap.size A 7 (holdingRows xs)) :
    Calls Tryz.prog 52 #[.slice A n cap] w fun e' w' => ∃ g, e' = .returned (.slice (some ⟨g, 0, none⟩) n n) ∧ Res w.heap.size w' 90 7 (some ⟨g, 0, none⟩) n n (holdingRows xs) ∧ Below w.heap.size w w' := by
  obtain ⟨i0, hi0, hz0, hz1, hz2⟩ := info_parts Holding.info
  have hmk := fun W => run_make_rowN (P := Tryz.prog) 29 90 i0 _ Tryz.underlying29 hi0 hz0 .i64 .i64 n n (Nat.le_refl _) (by rw [hz2]; omega) (by omega) W
  rw [hz1] at hmk
  have HX := Lib.hid hX; clear hX
  have HL := Lib.hid hl; clear hl
  clear hi0 hz0 hz1 hz2
  go_enter Tryz.func52, Tryz.ntmps52
  go_wp2
  clear hmk
  go_loopw [4] (fun i wr => ∃ k : Nat, k ≤ n ∧ i = .int .i64 k ∧ (∃ cs, Blk wr w.heap.size 90 cs ∧ cs.size = n * 7 ∧ Filled cs 7 (holdingRows xs) k) ∧ Below w.heap.size w wr) (fun i _ => n - (intOf i).toNat)
  case atStart => exact ⟨0, by omega, rfl, ⟨_, Blk.new _ _ _, by simp [madeCells], Filled.zero⟩, (Below.refl _ _).alloc (Nat.le_refl _) _⟩
  case round =>
    obtain ⟨k, hk, rfl, ⟨cs, hcs, hsz, hcs2⟩, hb⟩ := hrel
    have Hcs2 := Lib.hid hcs2; clear hcs2
    have Hsz := Lib.hid hsz; clear hsz
    have Hcs := Lib.hid hcs; clear hcs
    by_cases hlt : k < n
    · obtain ⟨x, hx⟩ := get_of_lt (xs := xs) (k := k) (by rw [HL.out]; exact hlt)
      obtain ⟨ad, rfl, had, _, hc⟩ := (HX.out.below hb).at' (holdingRows_get hx)
      have Hc := Lib.hid hc; clear hc
      have Hx := Lib.hid hx; clear hx
      go_wp2_with (refine wpList_load_agg rfl 133 _ rfl (ad.add (k * 7)) rfl x.row Hc.out _ Tryz.underlying133 rfl Holding.sizeL ?_)
      refine (toHolding_any x _).mono ?_
      rintro e w1 ⟨rfl, hb1⟩
      have Hcs1 := Lib.hid (Hcs.out.below' hb1)
      have hlt' : w.heap.size < w1.heap.size := Hcs1.out.lt
      have hfit : k * 7 + 7 ≤ cs.size := by rw [Hsz.out]; omega
      go_wp2_with (refine wpList_store_agg rfl 90 _ _ rfl w.heap.size (k * 7) x.row rfl rfl 90 cs Hcs1.out Holding.size hfit x.oneCell ?_)
      intro w2 hcs2 hg2 hs2
      have Hcs2' := Lib.hid hcs2; clear hcs2
      have hb2 : Below w.heap.size w w2 := ((hb.trans (hb1.mono hb.size))).trans (below_grown hg2 (by omega))
      have Hs2 := Lib.hid hs2; clear hs2
      go_wp2
      go_roundw
      case rel => exact ⟨k + 1, by omega, by go_num, ⟨_, Hcs2'.out, by rw [putAt_size (by exact hfit)]; exact Hsz.out, Hcs2.out.step (holdingRows_get Hx.out) rfl (holdingRows_all xs) hfit⟩, hb2⟩
      case measure => simp [intOf]; omega
    · have hkn : k = n := by omega
      subst hkn
      go_wp2
      go_ret
      refine ⟨w.heap.size, rfl, Filled.res Hcs.out Hcs2.out (by rw [holdingRows_length, HL.out]) Hsz.out (Nat.le_refl _) (by unfold maxLen; omega) (holdingRows_all xs), hb⟩

set_option maxHeartbeats 1000000 in
theorem eqHoldingS_any (A A' : Option Addr) (n cap cap' : Nat) (xs : List Holding) (w : World) (hn : n ≤ 140737488355328) (hl : xs.length = n) (hX : Rd w w.heap.size A 7 (holdingRows xs)) (hX' : Rd w w.heap.size A' 7 (holdingRows xs)) :
    Calls Tryz.prog 56 #[.slice A n cap, .slice A' n cap'] w fun e' w' => e' = .returned (.bool true) ∧ Below w.heap.size w w' := by
  have HX := Lib.hid hX; clear hX
  have HX' := Lib.hid hX'; clear hX'
  have HL := Lib.hid hl; clear hl
  go_enter Tryz.func56, Tryz.ntmps56
  go_wp2
  go_loopw [5] (fun i wr => ∃ k : Nat, k ≤ n ∧ i = .int .i64 k ∧ Below w.heap.size w wr) (fun i _ => n - (intOf i).toNat)
  case atStart => exact ⟨0, by omega, rfl, Below.refl _ _⟩
  case round =>
    obtain ⟨k, hk, rfl, hb⟩ := hrel
    by_cases hlt : k < n
    · obtain ⟨x, hx⟩ := get_of_lt (xs := xs) (k := k) (by rw [HL.out]; exact hlt)
      obtain ⟨ad, rfl, had, _, hc⟩ := (HX.out.below hb).at' (holdingRows_get hx)
      obtain ⟨ad', rfl, had', _, hc'⟩ := (HX'.out.below hb).at' (holdingRows_get hx)
      clear hx
      have c0 : wr.cell? (ad.add (k * 7)) = some (.int .i64 x.kind) := by have := hc 0 _ rfl; rwa [Addr.add_zero'] at this
      have c1 : wr.cell? ⟨(ad.add (k * 7)).block, (ad.add (k * 7)).off + 1, none⟩ = some (.int .i64 x.age) := hc 1 _ rfl
      have c2 : wr.cell? ⟨(ad.add (k * 7)).block, (ad.add (k * 7)).off + 2, none⟩ = some (.int .i64 x.years) := hc 2 _ rfl
      have c3 : wr.cell? ⟨(ad.add (k * 7)).block, (ad.add (k * 7)).off + 3, none⟩ = some (.int .i64 x.sum) := hc 3 _ rfl
      have c4 : wr.cell? ⟨(ad.add (k * 7)).block, (ad.add (k * 7)).off + 4, none⟩ = some (.int .i64 x.load) := hc 4 _ rfl
      have c5 : wr.cell? ⟨(ad.add (k * 7)).block, (ad.add (k * 7)).off + 5, none⟩ = some (.int .i64 x.year) := hc 5 _ rfl
      have c6 : wr.cell? ⟨(ad.add (k * 7)).block, (ad.add (k * 7)).off + 6, none⟩ = some (.int .i64 x.count) := hc 6 _ rfl
      have d0 : wr.cell? (ad'.add (k * 7)) = some (.int .i64 x.kind) := by have := hc' 0 _ rfl; rwa [Addr.add_zero'] at this
      have d1 : wr.cell? ⟨(ad'.add (k * 7)).block, (ad'.add (k * 7)).off + 1, none⟩ = some (.int .i64 x.age) := hc' 1 _ rfl
      have d2 : wr.cell? ⟨(ad'.add (k * 7)).block, (ad'.add (k * 7)).off + 2, none⟩ = some (.int .i64 x.years) := hc' 2 _ rfl
      have d3 : wr.cell? ⟨(ad'.add (k * 7)).block, (ad'.add (k * 7)).off + 3, none⟩ = some (.int .i64 x.sum) := hc' 3 _ rfl
      have d4 : wr.cell? ⟨(ad'.add (k * 7)).block, (ad'.add (k * 7)).off + 4, none⟩ = some (.int .i64 x.load) := hc' 4 _ rfl
      have d5 : wr.cell? ⟨(ad'.add (k * 7)).block, (ad'.add (k * 7)).off + 5, none⟩ = some (.int .i64 x.year) := hc' 5 _ rfl
      have d6 : wr.cell? ⟨(ad'.add (k * 7)).block, (ad'.add (k * 7)).off + 6, none⟩ = some (.int .i64 x.count) := hc' 6 _ rfl
      clear hc hc'
      have hS : ∀ w' : World, Below wr.heap.size wr w' → (Below w.heap.size w w' ∧ w'.cell? (ad.add (k * 7)) = some (.int .i64 x.kind) ∧ w'.cell? ⟨(ad.add (k * 7)).block, (ad.add (k * 7)).off + 1, none⟩ = some (.int .i64 x.age) ∧ w'.cell? ⟨(ad.add (k * 7)).block, (ad.add (k * 7)).off + 2, none⟩ = some (.int .i64 x.years) ∧ w'.cell? ⟨(ad.add (k * 7)).block, (ad.add (k * 7)).off + 3, none⟩ = some (.int .i64 x.sum) ∧ w'.cell? ⟨(ad.add (k * 7)).block, (ad.add (k * 7)).off + 4, none⟩ = some (.int .i64 x.load) ∧ w'.cell? ⟨(ad.add (k * 7)).block, (ad.add (k * 7)).off + 5, none⟩ = some (.int .i64 x.year) ∧ w'.cell? ⟨(ad.add (k * 7)).block, (ad.add (k * 7)).off + 6, none⟩ = some (.int .i64 x.count) ∧ w'.cell? (ad'.add (k * 7)) = some (.int .i64 x.kind) ∧ w'.cell? ⟨(ad'.add (k * 7)).block, (ad'.add (k * 7)).off + 1, none⟩ = some (.int .i64 x.age) ∧ w'.cell? ⟨(ad'.add (k * 7)).block, (ad'.add (k * 7)).off + 2, none⟩ = some (.int .i64 x.years) ∧ w'.cell? ⟨(ad'.add (k * 7)).block, (ad'.add (k * 7)).off + 3, none⟩ = some (.int .i64 x.sum) ∧ w'.cell? ⟨(ad'.add (k * 7)).block, (ad'.add (k * 7)).off + 4, none⟩ = some (.int .i64 x.load) ∧ w'.cell? ⟨(ad'.add (k * 7)).block, (ad'.add (k * 7)).off + 5, none⟩ = some (.int .i64 x.year) ∧ w'.cell? ⟨(ad'.add (k * 7)).block, (ad'.add (k * 7)).off + 6, none⟩ = some (.int .i64 x.count)) :=
        fun w' h => ⟨hb.trans (h.mono hb.size), (h.cell (by show (ad.add (k * 7)).block < _; rw [block_of_add]; have := hb.size; omega)).trans c0, (h.cell (by show (ad.add (k * 7)).block < _; rw [block_of_add]; have := hb.size; omega)).trans c1, (h.cell (by show (ad.add (k * 7)).block < _; rw [block_of_add]; have := hb.size; omega)).trans c2, (h.cell (by show (ad.add (k * 7)).block < _; rw [block_of_add]; have := hb.size; omega)).trans c3, (h.cell (by show (ad.add (k * 7)).block < _; rw [block_of_add]; have := hb.size; omega)).trans c4, (h.cell (by show (ad.add (k * 7)).block < _; rw [block_of_add]; have := hb.size; omega)).trans c5, (h.cell (by show (ad.add (k * 7)).block < _; rw [block_of_add]; have := hb.size; omega)).trans c6, (h.cell (by show (ad'.add (k * 7)).block < _; rw [block_of_add]; have := hb.size; omega)).trans d0, (h.cell (by show (ad'.add (k * 7)).block < _; rw [block_of_add]; have := hb.size; omega)).trans d1, (h.cell (by show (ad'.add (k * 7)).block < _; rw [block_of_add]; have := hb.size; omega)).trans d2, (h.cell (by show (ad'.add (k * 7)).block < _; rw [block_of_add]; have := hb.size; omega)).trans d3, (h.cell (by show (ad'.add (k * 7)).block < _; rw [block_of_add]; have := hb.size; omega)).trans d4, (h.cell (by show (ad'.add (k * 7)).block < _; rw [block_of_add]; have := hb.size; omega)).trans d5, (h.cell (by show (ad'.add (k * 7)).block < _; rw [block_of_add]; have := hb.size; omega)).trans d6⟩
      have HS := Lib.hid hS; clear hS
      clear c0 c1 c2 c3 c4 c5 c6 d0 d1 d2 d3 d4 d5 d6
      go_wp2
      go_region_held3 (fun w' => Below w.heap.size w w' ∧ w'.cell? (ad.add (k * 7)) = some (.int .i64 x.kind) ∧ w'.cell? ⟨(ad.add (k * 7)).block, (ad.add (k * 7)).off + 1, none⟩ = some (.int .i64 x.age) ∧ w'.cell? ⟨(ad.add (k * 7)).block, (ad.add (k * 7)).off + 2, none⟩ = some (.int .i64 x.years) ∧ w'.cell? ⟨(ad.add (k * 7)).block, (ad.add (k * 7)).off + 3, none⟩ = some (.int .i64 x.sum) ∧ w'.cell? ⟨(ad.add (k * 7)).block, (ad.add (k * 7)).off + 4, none⟩ = some (.int .i64 x.load) ∧ w'.cell? ⟨(ad.add (k * 7)).block, (ad.add (k * 7)).off + 5, none⟩ = some (.int .i64 x.year) ∧ w'.cell? ⟨(ad.add (k * 7)).block, (ad.add (k * 7)).off + 6, none⟩ = some (.int .i64 x.count) ∧ w'.cell? (ad'.add (k * 7)) = some (.int .i64 x.kind) ∧ w'.cell? ⟨(ad'.add (k * 7)).block, (ad'.add (k * 7)).off + 1, none⟩ = some (.int .i64 x.age) ∧ w'.cell? ⟨(ad'.add (k * 7)).block, (ad'.add (k * 7)).off + 2, none⟩ = some (.int .i64 x.years) ∧ w'.cell? ⟨(ad'.add (k * 7)).block, (ad'.add (k * 7)).off + 3, none⟩ = some (.int .i64 x.sum) ∧ w'.cell? ⟨(ad'.add (k * 7)).block, (ad'.add (k * 7)).off + 4, none⟩ = some (.int .i64 x.load) ∧ w'.cell? ⟨(ad'.add (k * 7)).block, (ad'.add (k * 7)).off + 5, none⟩ = some (.int .i64 x.year) ∧ w'.cell? ⟨(ad'.add (k * 7)).block, (ad'.add (k * 7)).off + 6, none⟩ = some (.int .i64 x.count))
        (first | exact HS.out _ (of_drew hb1) | exact HS.out _ (Below.drew (Below.refl _ _))) ((go_at_call 128; refine (eqHolding_any x _).mono ?_; rintro e1 w1 ⟨rfl, hb1⟩))
      have hb2 : Below w.heap.size w w1 := hb.trans ((of_drew hb1).mono hb.size)
      go_wp2
      go_roundw
      case rel => exact ⟨k + 1, by omega, by go_num, hb2⟩
      case measure => simp [intOf]; omega
    · go_wp2
      go_ret
      exact ⟨rfl, hb⟩

set_option maxHeartbeats 1000000 in
theorem markHoldingS_any (B : Nat) (A : Option Addr) (n cap k0 : Nat) (rows : List (List Value)) (w : World) (hn : n ≤ 1048576) (hk0 : k0 ≤ 1000000000) (hR : Res B w 90 7 A n cap rows) :
    Calls Tryz.prog 58 #[.slice A n cap, .int .i64 (k0 : Int)] w fun e' w' => e' = .returned (.int .i64 ((k0 : Int) + n * 7)) ∧ Turned w w' A n ∧ Marked w' A n 7 k0 := by
  have hA : 0 < n → ∃ g cs, A = some ⟨g, 0, none⟩ ∧ Blk w g 90 cs ∧ n * 7 ≤ cs.size := fun h => by
    obtain ⟨g, cs, e, _, hb, hs, _⟩ := hR.at_ h; exact ⟨g, cs, e, hb, hs⟩
  clear hR
  have HA := Lib.hid hA; clear hA
  go_enter Tryz.func58, Tryz.ntmps58
  go_wp2
  go_loopw [1, 5] (fun q i wr => ∃ k : Nat, k ≤ n ∧ i = .int .i64 k ∧ q = .int .i64 ((k0 : Int) + k * 7) ∧ ((k = 0 ∧ w = wr) ∨ (0 < n ∧ ∃ g cs, A = some ⟨g, 0, none⟩ ∧ Blk wr g 90 cs ∧ n * 7 ≤ cs.size ∧ (∀ j : Nat, j < k * 7 → cs[j]? = some (.int .i64 ((k0 : Int) + j))) ∧ w.grownBy wr (some g)))) (fun _ i _ => n - (intOf i).toNat)
  case atStart => exact ⟨0, by omega, rfl, by simp, .inl ⟨rfl, rfl⟩⟩
  case round =>
    obtain ⟨k, hk, rfl, rfl, hrel⟩ := hrel
    have Hrel := Lib.hid hrel; clear hrel
    by_cases hlt : k < n
    · obtain ⟨g, cs, rfl, hcs, hsz, hcs2, hg⟩ : ∃ g cs, A = some ⟨g, 0, none⟩ ∧ Blk wr g 90 cs ∧ n * 7 ≤ cs.size ∧ (∀ j : Nat, j < k * 7 → cs[j]? = some (.int .i64 ((k0 : Int) + j))) ∧ w.grownBy wr (some g) := by
        rcases Hrel.out with ⟨rfl, rfl⟩ | ⟨_, g, cs, r⟩
        · obtain ⟨g, cs, e, hb, hs⟩ := HA.out (by omega)
          exact ⟨g, cs, e, hb, hs, fun j hj => absurd hj (by omega), World.grownBy.refl _ _⟩
        · exact ⟨g, cs, r⟩
      clear Hrel HA
      obtain ⟨v0, e0⟩ := hcs.has (i := k * 7) (by omega)
      have f0 := hcs.frozen (k * 7)
      obtain ⟨v1, e1⟩ := hcs.has (i := k * 7 + 1) (by omega)
      have f1 := hcs.frozen (k * 7 + 1)
      obtain ⟨v2, e2⟩ := hcs.has (i := k * 7 + 2) (by omega)
      have f2 := hcs.frozen (k * 7 + 2)
      obtain ⟨v3, e3⟩ := hcs.has (i := k * 7 + 3) (by omega)
      have f3 := hcs.frozen (k * 7 + 3)
      obtain ⟨v4, e4⟩ := hcs.has (i := k * 7 + 4) (by omega)
      have f4 := hcs.frozen (k * 7 + 4)
      obtain ⟨v5, e5⟩ := hcs.has (i := k * 7 + 5) (by omega)
      have f5 := hcs.frozen (k * 7 + 5)
      obtain ⟨v6, e6⟩ := hcs.has (i := k * 7 + 6) (by omega)
      have f6 := hcs.frozen (k * 7 + 6)
      have Hcs2 := Lib.hid hcs2; clear hcs2
      have Hcs := Lib.hid hcs; clear hcs
      have Hg := Lib.hid hg; clear hg
      go_wp2
      go_roundw
      case rel => exact ⟨k + 1, by omega, by go_num, by go_num, .inr ⟨by omega, g, _, rfl, (((((((Hcs.out).set_ _ _).set_ _ _).set_ _ _).set_ _ _).set_ _ _).set_ _ _).set_ _ _, by simp; omega, by rw [Nat.add_mul]; exact marks_step (marks_step (marks_step (marks_step (marks_step (marks_step (marks_step (Hcs2.out) (by omega) (by go_num)) (by simp; omega) (by go_num)) (by simp; omega) (by go_num)) (by simp; omega) (by go_num)) (by simp; omega) (by go_num)) (by simp; omega) (by go_num)) (by simp; omega) (by go_num), grown_set (grown_set (grown_set (grown_set (grown_set (grown_set (grown_set (Hg.out) _ _) _ _) _ _) _ _) _ _) _ _) _ _⟩⟩
      case measure => simp [intOf]; omega
    · have hkn : k = n := by omega
      subst hkn
      go_wp2
      go_ret
      refine ⟨rfl, ?_⟩
      rcases Hrel.out with ⟨rfl, rfl⟩ | ⟨h0, g, cs, rfl, hb, hs, hc, hg⟩
      · exact ⟨.inl rfl, .inl rfl⟩
      · exact ⟨.inr ⟨h0, g, rfl, hg⟩, .inr ⟨g, rfl, hb.lt, fun j hj => by rw [hb.cell]; exact hc j hj⟩⟩
theorem markHoldingS_at (B : Nat) (A : Option Addr) (n cap k0 : Nat) (k : Int) (rows : List (List Value)) (w : World) (hn : n ≤ 1048576) (hk0 : k0 ≤ 1000000000) (hR : Res B w 90 7 A n cap rows) (hk : k = (k0 : Int)) :
    Calls Tryz.prog 58 #[.slice A n cap, .int .i64 k] w fun e' w' => e' = .returned (.int .i64 (k + n * 7)) ∧ Turned w w' A n ∧ Marked w' A n 7 k0 := by
  subst hk; exact markHoldingS_any B A n cap k0 rows w hn hk0 hR


end Go.Proofs.YtbjdbpdgacfcpaaGreat
end

/- Policies, their premiums and reserves: plain functions and their laws. No program. -/
section
namespace Go.Proofs.YtbjdbpdgacfcpaaGreat
open Go.RowKit Go.BigFrame

structure Bas where
  first : Int
  lives : List Int
  rate : Int
def basisB (b : Bas) : Bool := tableB b.first b.lives && inR b.rate 0 200
def Bas.ix (b : Bas) (age : Int) : Nat := (age - b.first).toNat
def Bas.d (b : Bas) (age : Int) : Int := dC b.lives b.rate (b.ix age)
def Bas.top (b : Bas) (kind age n : Int) : Int := topF b.lives b.rate kind (b.ix age) n.toNat
def Bas.base (b : Bas) (kind age n : Int) : Int := baseF b.lives b.rate kind (b.ix age) n.toNat
def Bas.last (b : Bas) : Int := b.first + (b.lives.length : Int) - 1
/-- the arguments of an assurance, but for the table -/
def assurB (b : Bas) (kind age n sum : Int) : Bool :=
  inR kind 0 3 && (inR b.rate 0 200 && (inR age b.first 150 && (inR sum 1 100000000 && (inR n 0 120 && (decide (age + n ≤ 150) && (decide (n = 0) == decide (kind = 0)))))))
def bandB (b : Bas) (age n : Int) : Bool := (List.range (max 1 n).toNat).all fun i => decide (b.d (age + i) ≠ 0)
def polB (b : Bas) (p : Policy) : Bool := basisB b && (assurB b p.kind p.age p.years p.sum && (inR p.load 0 1000 && bandB b p.age p.years))
def durP (b : Bas) (p : Policy) : Int := if p.kind = 0 then b.last - p.age else p.years
def resCode (b : Bas) (p : Policy) (k : Int) : Int := if polB b p = true then (if inR k 0 (durP b p - 1) = true then (if b.d (p.age + k) = 0 then 5 else 0) else 2) else 1
/-- a * b / c rounded up -/
def upP (a b c : Int) : Int := a * b / c + (if 0 < a * b % c then 1 else 0)
def netP (b : Bas) (p : Policy) : Int := upP p.sum (b.top p.kind p.age p.years) (b.base p.kind p.age p.years)
def officeP (b : Bas) (p : Policy) : Int := netP b p + ceilDiv (netP b p * p.load) 1000
def leftP (p : Policy) (k : Int) : Int := if p.kind = 0 then 0 else p.years - k
def fwdP (s t n v d : Int) : Int × Int := ((s * t - n * v) / d, (s * t - n * v) % d)
def roundP (x : Int × Int) : Int := max 0 (x.1 + (if 0 < x.2 then 1 else 0))
def partT (b : Bas) (p : Policy) (k : Int) : Int := b.top p.kind (p.age + k) (leftP p k)
def partB (b : Bas) (p : Policy) (k : Int) : Int := b.base p.kind (p.age + k) (leftP p k)
def partD (b : Bas) (p : Policy) (k : Int) : Int := b.d (p.age + k)
def resAt (b : Bas) (p : Policy) (k : Int) : Int := roundP (fwdP p.sum (partT b p k) (netP b p) (partB b p k) (partD b p k))

structure BasOk (b : Bas) : Prop where
  tab : TabOk b.first b.lives
  rate0 : 0 ≤ b.rate
  rate1 : b.rate ≤ 200
theorem basis_ok {b : Bas} (h : basisB b = true) : BasOk b := by
  simp only [basisB, Bool.and_eq_true, inR_true] at h
  exact ⟨table_ok h.1, h.2.1, h.2.2⟩
structure PolOk (b : Bas) (p : Policy) : Prop extends BasOk b where
  kind0 : 0 ≤ p.kind
  kind1 : p.kind ≤ 3
  age0 : b.first ≤ p.age
  age1 : p.age ≤ 150
  sum0 : 1 ≤ p.sum
  sum1 : p.sum ≤ 100000000
  yrs0 : 0 ≤ p.years
  yrs1 : p.years ≤ 120
  end1 : p.age + p.years ≤ 150
  zero : p.years = 0 ↔ p.kind = 0
  load0 : 0 ≤ p.load
  load1 : p.load ≤ 1000
  band : ∀ i : Nat, (i : Int) < max 1 p.years → b.d (p.age + i) ≠ 0
theorem pol_ok {b : Bas} {p : Policy} (h : polB b p = true) : PolOk b p := by
  simp only [polB, assurB, bandB, Bool.and_eq_true, inR_true, decide_eq_true_eq, List.all_eq_true, List.mem_range, beq_iff_eq, decide_eq_decide] at h
  obtain ⟨h1, ⟨⟨k0, k1⟩, _, ⟨a0, a1⟩, ⟨s0, s1⟩, ⟨y0, y1⟩, e1, z⟩, ⟨l0, l1⟩, hb⟩ := h
  exact { toBasOk := basis_ok h1, kind0 := k0, kind1 := k1, age0 := a0, age1 := a1, sum0 := s0, sum1 := s1, yrs0 := y0, yrs1 := y1, end1 := e1, zero := z, load0 := l0, load1 := l1, band := fun i hi => hb i (by omega) }
section
variable {b : Bas} (B : BasOk b)
include B
theorem d_bound (age : Int) : 0 ≤ b.d age ∧ b.d age ≤ 1000000000000000 := dC_bound B.tab B.rate0 _
theorem top_bound (kind age n : Int) : 0 ≤ b.top kind age n ∧ b.top kind age n ≤ b.d age := topF_bound B.tab B.rate0 _ _ _
theorem base_bound (kind age n : Int) (hn : n ≤ 120) : 0 ≤ b.base kind age n ∧ b.base kind age n ≤ 120 * b.d age := baseF_bound B.tab B.rate0 _ _ _ (by omega)
theorem base_pos (kind age n : Int) (h : kind = 0 ∨ 1 ≤ n) : b.d age ≤ b.base kind age n := baseF_pos B.tab B.rate0 _ _ _ (by rcases h with h | h; exact .inl h; exact .inr (by omega))
end
theorem mul_div_le {a x c m : Int} (ha : 0 ≤ a) (hx : 0 ≤ x) (hc : 1 ≤ c) (h : x ≤ m * c) : 0 ≤ a * x / c ∧ a * x / c ≤ a * m := by
  refine ⟨Int.ediv_nonneg (Int.mul_nonneg ha hx) (by omega), ?_⟩
  have h1 : a * x ≤ a * (m * c) := Int.mul_le_mul_of_nonneg_left h ha
  have h2 : a * x / c ≤ a * (m * c) / c := Int.ediv_le_ediv (by omega) h1
  rw [← Int.mul_assoc, Int.mul_ediv_cancel _ (by omega)] at h2
  exact h2
theorem up_le {a x c : Int} (ha : 0 ≤ a) (hx : 0 ≤ x) (hc : 1 ≤ c) (h : x ≤ c) : 0 ≤ upP a x c ∧ upP a x c ≤ a := by
  have h1 := mul_div_le (m := 1) ha hx hc (by omega)
  rw [Int.mul_one] at h1
  unfold upP
  split
  · rename_i hr
    have h2 := Int.mul_ediv_add_emod (a * x) c
    have h3 : a * x ≤ a * c := Int.mul_le_mul_of_nonneg_left h ha
    have h4 : a * x / c < a := by
      rcases Int.lt_or_le (a * x / c) a with h5 | h5
      · exact h5
      · have h6 : c * a ≤ c * (a * x / c) := Int.mul_le_mul_of_nonneg_left h5 (by omega)
        rw [Int.mul_comm c a] at h6
        omega
    omega
  · omega
theorem ceil_bound {x : Int} (h : 0 ≤ x) : 0 ≤ ceilDiv x 1000 ∧ ceilDiv x 1000 ≤ x := by unfold ceilDiv; omega
section
variable {b : Bas} {p : Policy} (P : PolOk b p)
include P
theorem d_age : 1 ≤ b.d p.age := by
  have h1 := P.band 0 (by omega)
  have h2 := d_bound P.toBasOk p.age
  simp only [Int.natCast_zero, Int.add_zero] at h1
  omega
theorem kind_or : p.kind = 0 ∨ 1 ≤ p.years := by
  have := P.zero; have := P.yrs0
  by_cases h : p.kind = 0
  · exact .inl h
  · exact .inr (by omega)
theorem net_base : 1 ≤ b.base p.kind p.age p.years := by
  have := base_pos P.toBasOk p.kind p.age p.years (kind_or P)
  have := d_age P
  omega
theorem net_bound : 0 ≤ netP b p ∧ netP b p ≤ 100000000 := by
  have h1 := top_bound P.toBasOk p.kind p.age p.years
  have h2 := base_pos P.toBasOk p.kind p.age p.years (kind_or P)
  have h3 := d_age P
  have h4 := up_le (a := p.sum) (x := b.top p.kind p.age p.years) (c := b.base p.kind p.age p.years) (by have := P.sum0; omega) h1.1 (by omega) (by omega)
  have := P.sum1
  unfold netP
  omega
theorem office_bound : 0 ≤ netP b p * p.load ∧ netP b p * p.load ≤ 100000000000 ∧ netP b p ≤ officeP b p ∧ officeP b p ≤ 200000000 := by
  have h1 := net_bound P
  have h2 : netP b p * p.load ≤ 100000000 * 1000 := Int.mul_le_mul h1.2 P.load1 P.load0 (by omega)
  have h3 := Int.mul_nonneg h1.1 P.load0
  unfold officeP ceilDiv
  omega
theorem dur_bound : durP b p ≤ 150 := by
  have := P.tab.top; have := P.age0; have := P.tab.first0; have := P.yrs1
  unfold durP Bas.last
  split <;> omega
theorem left_bound {k : Int} (hk : 0 ≤ k) : leftP p k ≤ 120 := by
  have := P.yrs1
  unfold leftP
  split <;> omega
end
/-- a year of a policy in which a reserve can be told -/
structure YearOk (b : Bas) (p : Policy) (k : Int) : Prop extends PolOk b p where
  k0 : 0 ≤ k
  k1 : k ≤ durP b p - 1
  d1 : 1 ≤ b.d (p.age + k)
theorem year_ok {b : Bas} {p : Policy} {k : Int} (h : resCode b p k = 0) : YearOk b p k := by
  unfold resCode at h
  by_cases h1 : polB b p = true
  · rw [if_pos h1] at h
    by_cases h2 : inR k 0 (durP b p - 1) = true
    · rw [if_pos h2] at h
      by_cases h3 : b.d (p.age + k) = 0
      · rw [if_pos h3] at h; omega
      · have h4 := inR_true.1 h2
        have h5 := d_bound (pol_ok h1).toBasOk (p.age + k)
        exact { toPolOk := pol_ok h1, k0 := h4.1, k1 := h4.2, d1 := by omega }
    · rw [if_neg h2] at h; omega
  · rw [if_neg h1] at h; omega
/-- the parts of a reserve, whatever the basis: sizes that fit -/
structure PartOk (s t n v d : Int) : Prop where
  s0 : 0 ≤ s
  s1 : s ≤ 100000000
  n0 : 0 ≤ n
  n1 : n ≤ 100000000
  t0 : 0 ≤ t
  t1 : t ≤ d
  v0 : 0 ≤ v
  v1 : v ≤ 120 * d
  d0 : 1 ≤ d
  d1 : d ≤ 1000000000000000
theorem part_ok {b : Bas} {p : Policy} {k n : Int} (Y : YearOk b p k) (hn : 0 ≤ n ∧ n ≤ 100000000) : PartOk p.sum (partT b p k) n (partB b p k) (partD b p k) := by
  have h1 := top_bound Y.toBasOk p.kind (p.age + k) (leftP p k)
  have h2 := base_bound Y.toBasOk p.kind (p.age + k) (leftP p k) (left_bound Y.toPolOk Y.k0)
  have h3 := d_bound Y.toBasOk (p.age + k)
  exact { s0 := by have := Y.sum0; omega, s1 := Y.sum1, n0 := hn.1, n1 := hn.2, t0 := h1.1, t1 := h1.2, v0 := h2.1, v1 := h2.2, d0 := Y.d1, d1 := h3.2 }
section
variable {s t n v d : Int} (K : PartOk s t n v d)
include K
theorem part_quo : (0 ≤ s * t / d ∧ s * t / d ≤ 100000000) ∧ (0 ≤ n * v / d ∧ n * v / d ≤ 12000000000) := by
  have h1 := mul_div_le (m := 1) K.s0 K.t0 K.d0 (by have := K.t1; omega)
  have h2 := mul_div_le (m := 120) K.n0 K.v0 K.d0 K.v1
  have := K.s1; have := K.n1
  omega
theorem part_rest : (0 ≤ s * t % d ∧ s * t % d < d) ∧ (0 ≤ n * v % d ∧ n * v % d < d) := by
  have h0 := K.d0
  exact ⟨⟨Int.emod_nonneg _ (by omega), Int.emod_lt_of_pos _ (by omega)⟩, ⟨Int.emod_nonneg _ (by omega), Int.emod_lt_of_pos _ (by omega)⟩⟩
/-- the program's way to the forward reserve -/
theorem fwd_low (h : s * t % d < n * v % d) : fwdP s t n v d = (s * t / d - n * v / d - 1, s * t % d - n * v % d + d) := by
  have h1 := Int.mul_ediv_add_emod (s * t) d
  have h2 := Int.mul_ediv_add_emod (n * v) d
  have h3 := part_rest K
  have e : s * t - n * v = (s * t % d - n * v % d + d) + d * (s * t / d - n * v / d - 1) := by rw [Int.mul_sub, Int.mul_sub]; omega
  unfold fwdP
  have h4 : s * t % d - n * v % d + d < d := by omega
  have h5 : 0 ≤ s * t % d - n * v % d + d := by omega
  rw [e, Int.add_mul_ediv_left _ _ (by have := K.d0; omega), Int.ediv_eq_zero_of_lt h5 h4, Int.add_mul_emod_self_left, Int.emod_eq_of_lt h5 h4, Int.zero_add]
theorem fwd_high (h : ¬ s * t % d < n * v % d) : fwdP s t n v d = (s * t / d - n * v / d, s * t % d - n * v % d) := by
  have h1 := Int.mul_ediv_add_emod (s * t) d
  have h2 := Int.mul_ediv_add_emod (n * v) d
  have h3 := part_rest K
  have e : s * t - n * v = (s * t % d - n * v % d) + d * (s * t / d - n * v / d) := by rw [Int.mul_sub]; omega
  unfold fwdP
  have h4 : s * t % d - n * v % d < d := by omega
  have h5 : 0 ≤ s * t % d - n * v % d := by omega
  rw [e, Int.add_mul_ediv_left _ _ (by have := K.d0; omega), Int.ediv_eq_zero_of_lt h5 h4, Int.add_mul_emod_self_left, Int.emod_eq_of_lt h5 h4, Int.zero_add]
theorem fwd_bound : (-12000000001 ≤ (fwdP s t n v d).1 ∧ (fwdP s t n v d).1 ≤ 100000000) ∧ (0 ≤ (fwdP s t n v d).2 ∧ (fwdP s t n v d).2 < d) := by
  have h1 := part_quo K
  have h2 := part_rest K
  have h0 := K.d0
  by_cases h : s * t % d < n * v % d
  · rw [fwd_low K h]; simp only; omega
  · rw [fwd_high K h]; simp only; omega
theorem round_bound : 0 ≤ roundP (fwdP s t n v d) ∧ roundP (fwdP s t n v d) ≤ 100000001 := by
  have h := fwd_bound K
  unfold roundP
  split <;> omega
end
theorem res_bound {b : Bas} {p : Policy} {k : Int} (Y : YearOk b p k) : 0 ≤ resAt b p k ∧ resAt b p k ≤ 100000001 := round_bound (part_ok Y (net_bound Y.toPolOk))
end Go.Proofs.YtbjdbpdgacfcpaaGreat
end

/- The helper functions of the laws for Scenario: a copy, a comparison, marks. Each contract holds for every argument of the stated shape. -/
section
namespace Go.Proofs.YtbjdbpdgacfcpaaGreat
open Go.RowKit Go.Deep Go.BigFrame

structure Scenario where
  rate : Int
  death : Int
def Scenario.row (r : Scenario) : List Value := [.int .i64 r.rate, .int .i64 r.death]
def scenarioRows (xs : List Scenario) : List (List Value) := xs.map Scenario.row
theorem scenarioRows_get {xs : List Scenario} {k : Nat} {x : Scenario} (h : xs[k]? = some x) : (scenarioRows xs)[k]? = some x.row := by simp [scenarioRows, h]
theorem scenarioRows_length (xs : List Scenario) : (scenarioRows xs).length = xs.length := by simp [scenarioRows]
theorem scenarioRows_all (xs : List Scenario) : ∀ r ∈ scenarioRows xs, r.length = 2 := by
  intro r hr; obtain ⟨x, _, rfl⟩ := List.mem_map.1 hr; rfl
theorem Scenario.oneCell (x : Scenario) : ∀ v ∈ x.row, v.oneCell' = true := by simp [Scenario.row, Value.oneCell']
theorem Scenario.info : (Tryz.prog.info? 31).map (fun i => (i.zero, i.size, i.bytes)) = some (some (.agg #[.int .i64 0, .int .i64 0]), 2, 16) := by kernel_rfl
theorem Scenario.size : (Tryz.prog.info? 31).map (·.size) = some 2 := by kernel_rfl

theorem Scenario.cells {x : Scenario} {w : World} {p : Addr} (hc : ∀ (j : Nat) (v : Value), x.row[j]? = some v → w.cell? (p.add j) = some v) : w.cell? p = some (.int .i64 x.rate) ∧ w.cell? ⟨p.block, p.off + 1, none⟩ = some (.int .i64 x.death) := by
  refine ⟨by have := hc 0 _ rfl; rwa [Addr.add_zero'] at this, hc 1 _ rfl⟩
def Scenario.fits (x : Scenario) : Prop := In64 x.rate ∧ In64 x.death
theorem Scenario.of_nums : ∀ (rows : List (List Int)), (∀ r ∈ rows, r.length = 2 ∧ ∀ z ∈ r, In64 z) → ∃ xs : List Scenario, xs.length = rows.length ∧ scenarioRows xs = numRows rows ∧ ∀ x ∈ xs, x.fits
  | [], _ => ⟨[], rfl, rfl, by simp⟩
  | q :: rest, h => by
    obtain ⟨xs, hl, hr, hf⟩ := Scenario.of_nums rest fun r hr => h r (by simp [hr])
    obtain ⟨hq, hz⟩ := h q (by simp)
    match q, hq with
    | [z0, z1], _ =>
      refine ⟨⟨z0, z1⟩ :: xs, by simp [hl], by rw [scenarioRows, List.map_cons, numRows, List.map_cons, ← numRows, ← hr]; rfl, fun x hx => ?_⟩
      rcases List.mem_cons.1 hx with rfl | hx
      · exact ⟨hz z0 (by simp), hz z1 (by simp)⟩
      · exact hf x hx
theorem Scenario.of_num {zs : List Int} (hl : zs.length = 2) (hz : ∀ z ∈ zs, In64 z) : ∃ x : Scenario, (zs.map (Value.int .i64)).toArray = x.row.toArray ∧ x.fits := by
  match zs, hl with
  | [z0, z1], _ => exact ⟨⟨z0, z1⟩, rfl, hz z0 (by simp), hz z1 (by simp)⟩









end Go.Proofs.YtbjdbpdgacfcpaaGreat
end

/- Life tables changed by a scenario: plain functions and their laws. No program. -/
section
namespace Go.Proofs.YtbjdbpdgacfcpaaGreat
open Go.RowKit Go.BigFrame

/-- the deaths among l lives that were left at place k -/
def chgDead (xs : List Int) (dt : Int) (k : Nat) (l : Int) : Int :=
  if k + 2 < xs.length then min l (ceilDiv (l * (lv xs k - lv xs (k + 1)) * (1000 + dt)) (1000 * lv xs k)) else l
def chgAt (xs : List Int) (dt : Int) : Nat → Int
  | 0 => lv xs 0
  | k + 1 => chgAt xs dt k - chgDead xs dt k (chgAt xs dt k)
def chgLen (xs : List Int) (dt : Int) : Nat := ((List.range xs.length).takeWhile fun k => decide (0 < chgAt xs dt k)).length
def chgL (xs : List Int) (dt : Int) : List Int := (List.range (chgLen xs dt + 1)).map (chgAt xs dt)
theorem takeWhile_len {p : Nat → Bool} {n k : Nat} (hk : k < n) (h : ∀ j, j < k → p j = true) (hp : p k = false) : ((List.range n).takeWhile p).length = k := by
  obtain ⟨m, rfl⟩ : ∃ m, n = k + (m + 1) := ⟨n - k - 1, by omega⟩
  rw [List.range_add, List.takeWhile_append_of_pos (fun j hj => h j (by simpa using hj)), List.range_succ_eq_map]
  simp [hp]
theorem up_ceil {a b c : Int} (hc : 1 ≤ c) : upP a b c = ceilDiv (a * b) c := by
  unfold upP ceilDiv
  generalize a * b = x
  have h1 := Int.mul_ediv_add_emod x c
  have h2 := Int.emod_nonneg x (show c ≠ 0 by omega)
  have h3 := Int.emod_lt_of_pos x (show 0 < c by omega)
  by_cases h : 0 < x % c
  · rw [if_pos h]
    have e : -x = (c - x % c) + c * (-(x / c) - 1) := by rw [Int.mul_sub, Int.mul_neg]; omega
    have h4 : (c - x % c) / c = 0 := Int.ediv_eq_zero_of_lt (by omega) (by omega)
    have h5 : c ≠ 0 := by omega
    rw [e, Int.add_mul_ediv_left _ _ h5, h4]
    omega
  · rw [if_neg h]
    have e : -x = 0 + c * (-(x / c)) := by rw [Int.mul_neg]; omega
    have h5 : c ≠ 0 := by omega
    rw [e, Int.add_mul_ediv_left _ _ h5]
    simp
section
variable {first : Int} {xs : List Int} {dt : Int} (T : TabOk first xs) (hd : -500 ≤ dt ∧ dt ≤ 500)
include T hd
/-- the parts of one step, while lives are left -/
theorem chg_parts {k : Nat} {l : Int} (hk : k + 1 < xs.length) (h0 : 0 ≤ l) (h1 : l ≤ 1000000) : (0 ≤ lv xs k - lv xs (k + 1) ∧ lv xs k - lv xs (k + 1) ≤ 1000000) ∧ (0 ≤ l * (lv xs k - lv xs (k + 1)) ∧ l * (lv xs k - lv xs (k + 1)) ≤ 1000000000000) ∧
    (0 ≤ (lv xs k - lv xs (k + 1)) * (1000 + dt) ∧ (lv xs k - lv xs (k + 1)) * (1000 + dt) ≤ 1500000000) ∧ (1000 ≤ 1000 * lv xs k ∧ 1000 * lv xs k ≤ 1000000000) ∧
    0 ≤ l * (lv xs k - lv xs (k + 1)) * (1000 + dt) ∧ l * (lv xs k - lv xs (k + 1)) * (1000 + dt) ≤ 1500000000000000 := by
  have h2 := T.anti k
  have h3 := T.nonneg k
  have h4 := T.most k
  have h5 := T.nonneg (k + 1)
  have h6 := T.pos k (by omega)
  have h7 : 0 ≤ (lv xs k - lv xs (k + 1)) * (1000 + dt) := Int.mul_nonneg (by omega) (by omega)
  have h8 : (lv xs k - lv xs (k + 1)) * (1000 + dt) ≤ 1000000 * 1500 := Int.mul_le_mul (by omega) (by omega) (by omega) (by omega)
  have h9 : l * (lv xs k - lv xs (k + 1)) ≤ 1000000 * 1000000 := Int.mul_le_mul (by omega) (by omega) (by omega) (by omega)
  have h10 : 0 ≤ l * (lv xs k - lv xs (k + 1)) := Int.mul_nonneg h0 (by omega)
  have h11 : l * (lv xs k - lv xs (k + 1)) * (1000 + dt) ≤ 1000000000000 * 1500 := Int.mul_le_mul (by omega) (by omega) (by omega) (by omega)
  have h12 := Int.mul_nonneg h10 (show 0 ≤ 1000 + dt by omega)
  omega
theorem chg_dead {k : Nat} {l : Int} (h0 : 0 ≤ l) (h1 : l ≤ 1000000) : 0 ≤ chgDead xs dt k l ∧ chgDead xs dt k l ≤ l := by
  unfold chgDead
  split
  · rename_i hk
    have h2 := chg_parts T hd (show k + 1 < xs.length by omega) h0 h1
    generalize l * (lv xs k - lv xs (k + 1)) * (1000 + dt) = x at *
    generalize 1000 * lv xs k = y at *
    have : 0 ≤ ceilDiv x y := by
      unfold ceilDiv
      have h3 := Int.mul_ediv_add_emod (-x) y
      have h4 := Int.emod_lt_of_pos (-x) (show 0 < y by omega)
      rcases Int.lt_or_le 0 ((-x) / y) with h5 | h5
      · have h6 : y * 1 ≤ y * ((-x) / y) := Int.mul_le_mul_of_nonneg_left (by omega) (by omega)
        have h7 := Int.emod_nonneg (-x) (show y ≠ 0 by omega)
        omega
      · omega
    omega
  · omega
theorem chg_bound : ∀ k : Nat, 0 ≤ chgAt xs dt k ∧ chgAt xs dt k ≤ 1000000
  | 0 => by have := T.nonneg 0; have := T.most 0; unfold chgAt; omega
  | k + 1 => by
    have h := chg_bound k
    have := chg_dead T hd (k := k) h.1 h.2
    unfold chgAt; omega
theorem chg_anti (k : Nat) : chgAt xs dt (k + 1) ≤ chgAt xs dt k := by
  have h := chg_bound T hd k
  have := chg_dead T hd (k := k) h.1 h.2
  rw [chgAt]; omega
omit T hd in
theorem chg_last {k : Nat} (hk : xs.length ≤ k + 2) : chgAt xs dt (k + 1) = 0 := by
  rw [chgAt, chgDead, if_neg (by omega)]; omega
end
theorem chg_len {xs : List Int} {dt : Int} {k : Nat} (hk : k < xs.length) (h : ∀ j, j < k → 0 < chgAt xs dt j) (hp : chgAt xs dt k = 0) : chgLen xs dt = k :=
  takeWhile_len hk (fun j hj => by simpa using h j hj) (by simp [hp])
theorem chg_low {xs : List Int} {dt : Int} {k : Nat} (h : 0 < chgAt xs dt (k + 1)) : k + 2 < xs.length := by
  rcases Nat.lt_or_ge (k + 2) xs.length with h1 | h1
  · exact h1
  · rw [chg_last h1] at h; omega
theorem chgLen_le {xs : List Int} {dt : Int} : chgLen xs dt ≤ xs.length := by
  unfold chgLen
  have h1 := (List.takeWhile_prefix (fun k => decide (0 < chgAt xs dt k)) (l := List.range xs.length)).length_le
  simpa using h1
theorem chgL_length (xs : List Int) (dt : Int) : (chgL xs dt).length = chgLen xs dt + 1 := by simp [chgL]
def chgTP (f : Int) (xs : List Int) (dt : Int) : Int × List Int × Int := if tableB f xs = true then (if inR dt (-500) 500 = true then (f, chgL xs dt, 0) else (0, [], 2)) else (0, [], 1)
def chgB (b : Bas) (r : Scenario) : Bas := ⟨b.first, chgL b.lives r.death, b.rate + r.rate⟩
def scenB (b : Bas) (r : Scenario) : Bool := inR r.rate (-200) 200 && (inR r.death (-500) 500 && inR (b.rate + r.rate) 0 200)
def chgBP (b : Bas) (r : Scenario) : Bas × Int := if basisB b = true then (if scenB b r = true then (chgB b r, 0) else (⟨0, [], 0⟩, 2)) else (⟨0, [], 0⟩, 1)
theorem chgL_small {f : Int} {xs : List Int} {dt : Int} (h : tableB f xs = true) : (chgL xs dt).length ≤ 121 := by
  rw [chgL_length]
  have := chgLen_le (xs := xs) (dt := dt)
  have := (table_ok h).len1
  omega
theorem chgT_small (f : Int) (xs : List Int) (dt : Int) : (chgTP f xs dt).2.1.length ≤ 1048576 := by
  unfold chgTP
  split
  · rename_i h
    split
    · have := chgL_small (dt := dt) h; simp only; omega
    · simp
  · simp
theorem chgB_small (b : Bas) (r : Scenario) : (chgBP b r).1.lives.length ≤ 1048576 := by
  unfold chgBP
  split
  · rename_i h
    have h1 : tableB b.first b.lives = true := by simp only [basisB, Bool.and_eq_true] at h; exact h.1
    split
    · have := chgL_small (dt := r.death) h1; simp only [chgB]; omega
    · simp
  · simp
theorem chgL_fits {f : Int} {xs : List Int} {dt : Int} (T : TabOk f xs) (hd : -500 ≤ dt ∧ dt ≤ 500) : ∀ x ∈ chgL xs dt, In64 x := by
  intro x hx
  simp only [chgL, List.mem_map] at hx
  obtain ⟨k, _, rfl⟩ := hx
  have := chg_bound T hd k
  unfold In64; omega
theorem scen_ok {b : Bas} {r : Scenario} (h : scenB b r = true) : (-200 ≤ r.rate ∧ r.rate ≤ 200) ∧ (-500 ≤ r.death ∧ r.death ≤ 500) ∧ 0 ≤ b.rate + r.rate ∧ b.rate + r.rate ≤ 200 := by
  simpa only [scenB, Bool.and_eq_true, inR_true] using h
theorem chgB_fits (b : Bas) (r : Scenario) : (chgBP b r).1.lives.length ≤ 1048576 ∧ (∀ x ∈ (chgBP b r).1.lives, In64 x) ∧ In64 (chgBP b r).1.first ∧ In64 (chgBP b r).1.rate := by
  refine ⟨chgB_small b r, ?_⟩
  unfold chgBP
  split
  · rename_i h
    have B := basis_ok h
    split
    · rename_i h2
      obtain ⟨h3, h4, h5⟩ := scen_ok h2
      have := B.tab.first0; have := B.tab.first1
      exact ⟨chgL_fits B.tab h4, by unfold chgB In64; simp only; omega, by unfold chgB In64; simp only; omega⟩
    · exact ⟨by simp, by unfold In64; simp, by unfold In64; simp⟩
  · exact ⟨by simp, by unfold In64; simp, by unfold In64; simp⟩
end Go.Proofs.YtbjdbpdgacfcpaaGreat
end

/- Life tables: whether they are valid, their lives and ends: the program's and the reference's contracts. -/
section
namespace Go.Proofs.YtbjdbpdgacfcpaaGreat
open Go.RowKit Go.BigFrame

/-- part of a block as a struct's cells -/
theorem Blk.agg {w : World} {g : Nat} {t : TypeId} {cs : List Value} (h : Blk w g t cs.toArray) (o : Nat) (vs : List Value) (e : (cs.drop o).take vs.length = vs) :
    ∀ (j : Nat) (v : Value), vs[j]? = some v → w.cell? ((⟨g, o, none⟩ : Addr).add j) = some v := by
  intro j v hv
  rw [add_none, h.cell, List.getElem?_toArray]
  have hj := (List.getElem?_eq_some_iff.1 hv).1
  rw [← e, List.getElem?_take, if_pos hj, List.getElem?_drop] at hv
  exact hv
theorem Blk.agg_past {w : World} {g : Nat} {t : TypeId} {cs : List Value} (h : Blk w g t cs.toArray) (o : Nat) (vs : List Value) (e : (cs.drop o).take vs.length = vs) :
    ∀ w', (∃ y : Past w, w' = y.1) → ∀ (j : Nat) (v : Value), vs[j]? = some v → w'.cell? ((⟨g, o, none⟩ : Addr).add j) = some v := by
  rintro _ ⟨y, rfl⟩
  exact Blk.agg (h.below' y.2) o vs e
theorem intsLen_any (A : Option Addr) (n cap : Nat) (w : World) (_hn : n ≤ 1048576) :
    Calls Tryz.prog 93 #[.slice A n cap] w fun e w' => e = .returned (.int .i64 n) ∧ w = w' := by
  go_enter Tryz.func93, Tryz.ntmps93
  go_wp2
  go_ret
  exact ⟨rfl, rfl⟩

/-- a life table's lives lie in memory as told -/
structure LiesT (w : World) (A : Option Addr) (n : Nat) (xs : List Int) : Prop where
  len : xs.length = n
  small : n ≤ 1048576
  rd : Rd w w.heap.size A 1 (intRows xs)
  fits : ∀ x ∈ xs, In64 x
theorem LiesT.past {w w' : World} {A : Option Addr} {n : Nat} {xs : List Int} (h : LiesT w A n xs) (hb : Below w.heap.size w w') : LiesT w' A n xs := ⟨h.len, h.small, h.rd.past hb, h.fits⟩
theorem LiesT.at_ {w : World} {A : Option Addr} {n : Nat} {xs : List Int} (h : LiesT w A n xs) {k : Nat} (hk : k < n) : ∃ ad, A = some ad ∧ ad.block < w.heap.size ∧ w.cell? (ad.add k) = some (.int .i64 (lv xs k)) := h.rd.int_at (lv_some (by rw [h.len]; exact hk))
theorem lv_fits {xs : List Int} (h : ∀ x ∈ xs, In64 x) (k : Nat) : In64 (lv xs k) := by
  by_cases hk : k < xs.length
  · exact h _ (List.mem_of_getElem? (lv_some hk))
  · rw [lv_past (by omega)]; unfold In64; omega
theorem add_zero_at (a : Addr) : a.add 0 = a := by simp [Addr.add]
theorem all_range_stop {p : Nat → Bool} {m k : Nat} (hk : k < m) (h : p k = false) : (List.range m).all p = false := by
  rw [List.all_eq_false]; exact ⟨k, by simpa using hk, by simpa using h⟩

set_option maxHeartbeats 4000000 in
theorem impl_IsLifeTable_any (first : Int) (A : Option Addr) (n cap : Nat) (xs : List Int) (w : World) (hT : LiesT w A n xs) (hcap : n ≤ cap) (_hf : In64 first) :
    Calls Tryz.prog 19 #[.agg #[.int .i64 first, .slice A n cap]] w fun e w' => e = .returned (.bool (tableB first xs)) ∧ Below w.heap.size w w' := by
  have hbw : Below w.heap.size w (w.alloc (.cells #[.int .i64 first, .slice A n cap] 26)) := (Below.refl _ w).alloc (Nat.le_refl _) _
  have HT := Lib.hid (hT.past hbw); clear hT
  have hn := HT.out.small
  have HL := Lib.hid HT.out.len
  by_cases h1 : inR first 0 100 = true
  rotate_left
  · have Q := Lib.hid (show tableB first xs = false by simp [tableB, headB, h1])
    have h1' : inR first 0 100 = false := by simpa using h1
    clear h1
    go_enter Tryz.func19, Tryz.ntmps19
    go_wp2_with (first | (go_at_call 93; refine (intsLen_any A n cap _ hn).mono ?_; rintro e w' ⟨rfl, rfl⟩) | (go_at_call 82; refine (impl_inRange_any _ _ _ _).mono ?_; rintro e w' ⟨rfl, rfl⟩))
    go_ret
    exact ⟨by rw [Q.out]; rfl, hbw⟩
  by_cases h2 : inR n 2 120 = true
  rotate_left
  · have Q := Lib.hid (show tableB first xs = false by simp [tableB, headB, HL.out, h2])
    have h2' : inR n 2 120 = false := by simpa using h2
    clear h2
    go_enter Tryz.func19, Tryz.ntmps19
    go_wp2_with (first | (go_at_call 93; refine (intsLen_any A n cap _ hn).mono ?_; rintro e w' ⟨rfl, rfl⟩) | (go_at_call 82; refine (impl_inRange_any _ _ _ _).mono ?_; rintro e w' ⟨rfl, rfl⟩))
    go_ret
    exact ⟨by rw [Q.out]; rfl, hbw⟩
  obtain ⟨n1, n2⟩ := inR_true.1 h2
  obtain ⟨f1, f2⟩ := inR_true.1 h1
  obtain ⟨ad, rfl, had, hc0⟩ := HT.out.at_ (k := 0) (by omega)
  rw [add_zero_at] at hc0
  have hadb : ad.block < w.heap.size + 1 := by simpa using had
  by_cases h3 : lv xs 0 ≤ 1000000
  rotate_left
  · have Q := Lib.hid (show tableB first xs = false by simp [tableB, headB, h3])
    go_enter Tryz.func19, Tryz.ntmps19
    go_wp2_with (first | (go_at_call 93; refine (intsLen_any _ n cap _ hn).mono ?_; rintro e w' ⟨rfl, rfl⟩) | (go_at_call 82; refine (impl_inRange_any _ _ _ _).mono ?_; rintro e w' ⟨rfl, rfl⟩))
    go_ret
    exact ⟨by rw [Q.out]; rfl, hbw⟩
  obtain ⟨m, hm⟩ : ∃ m : Nat, n = m + 1 := ⟨n - 1, by omega⟩
  have hmi : (n : Int) - 1 = (m : Int) := by omega
  have HM := Lib.hid hm; clear hm
  have hmn : m < n := by have := HM.out; omega
  obtain ⟨ad', had', had2, hcm⟩ := HT.out.at_ (k := m) hmn
  injection had' with had'; subst had'
  by_cases h4 : lv xs m = 0
  rotate_left
  · have Q := Lib.hid (show tableB first xs = false by simp [tableB, headB, HL.out, show n - 1 = m by have := HM.out; omega, h4])
    go_enter Tryz.func19, Tryz.ntmps19
    go_wp2_with (first | (go_at_call 93; refine (intsLen_any _ n cap _ hn).mono ?_; rintro e w' ⟨rfl, rfl⟩) | (go_at_call 82; refine (impl_inRange_any _ _ _ _).mono ?_; rintro e w' ⟨rfl, rfl⟩))
    go_ret
    exact ⟨by rw [Q.out]; rfl, hbw⟩
  have H4 := Lib.hid h4
  rw [h4] at hcm
  clear h4
  by_cases h5 : first + (n : Int) - 1 ≤ 150
  rotate_left
  · have Q := Lib.hid (show tableB first xs = false by simp [tableB, headB, HL.out, h5])
    go_enter Tryz.func19, Tryz.ntmps19
    go_wp2_with (first | (go_at_call 93; refine (intsLen_any _ n cap _ hn).mono ?_; rintro e w' ⟨rfl, rfl⟩) | (go_at_call 82; refine (impl_inRange_any _ _ _ _).mono ?_; rintro e w' ⟨rfl, rfl⟩))
    go_ret
    exact ⟨by rw [Q.out]; rfl, hbw⟩
  have Q := Lib.hid (show tableB first xs = (List.range m).all (rowB xs) by
    have e : headB first xs = true := by simp [headB, HL.out, h1, h2, h3, h5, show n - 1 = m by have := HM.out; omega, H4.out]
    rw [tableB, e, HL.out, show n - 1 = m by have := HM.out; omega, Bool.true_and])
  go_enter Tryz.func19, Tryz.ntmps19
  go_wp2_with (first | (go_at_call 93; refine (intsLen_any _ n cap _ hn).mono ?_; rintro e w' ⟨rfl, rfl⟩) | (go_at_call 82; refine (impl_inRange_any _ _ _ _).mono ?_; rintro e w' ⟨rfl, rfl⟩))
  go_loop [48] (fun i => ∃ k : Nat, k ≤ m ∧ i = .int .i64 k ∧ (List.range k).all (rowB xs) = true) (fun i => m - (intOf i).toNat)
  case atStart => exact ⟨0, by omega, rfl, rfl⟩
  case round =>
    obtain ⟨k, hk, rfl, hall⟩ := hrel
    have HA := Lib.hid hall; clear hall
    by_cases hlt : k < m
    rotate_left
    · have hkm : k = m := by omega
      subst hkm
      go_wp2
      go_ret
      exact ⟨by rw [Q.out, HA.out]; rfl, hbw⟩
    obtain ⟨ad1, had1, _, hck⟩ := HT.out.at_ (k := k) (by omega)
    injection had1 with had1; subst had1
    have hlk := lv_fits HT.out.fits k
    obtain ⟨g1, g2⟩ := hlk
    have hkm2 : (k : Int) < (m : Int) := by omega
    by_cases hp : 1 ≤ lv xs k
    rotate_left
    · have hr : rowB xs k = false := by simp [rowB, hp]
      have HR := Lib.hid hr; clear hr
      go_wp2
      go_ret
      exact ⟨by rw [Q.out, all_range_stop hlt HR.out]; rfl, hbw⟩
    cases k with
    | zero =>
      have hr : rowB xs 0 = true := by simp [rowB, hp]
      have HR := Lib.hid hr; clear hr
      rw [add_zero_at] at hck
      go_wp2
      go_round
      case rel => exact ⟨1, by omega, by go_num, by rw [List.range_succ, List.all_append, HA.out]; simp [HR.out]⟩
      case measure => simp [intOf]; omega
    | succ k =>
      obtain ⟨ad2, had2', _, hcp⟩ := HT.out.at_ (k := k) (by omega)
      injection had2' with had2'; subst had2'
      have ek : (((k + 1 : Nat) : Int) - 1) = (k : Int) := by omega
      rw [show ad.add (k + 1) = ⟨ad.block, ad.off + (k + 1), none⟩ from by simp [Addr.add]] at hck
      by_cases hq : lv xs (k + 1) ≤ lv xs k
      · have hr : rowB xs (k + 1) = true := by simp [rowB, hp, hq]
        have HR := Lib.hid hr; clear hr
        go_wp2
        go_round
        case rel => exact ⟨k + 2, by omega, by go_num, by rw [List.range_succ, List.all_append, HA.out]; simp [HR.out]⟩
        case measure => simp [intOf]; omega
      · have hr : rowB xs (k + 1) = false := by simp [rowB, hq]
        have HR := Lib.hid hr; clear hr
        go_wp2
        go_ret
        exact ⟨by rw [Q.out, all_range_stop hlt HR.out]; rfl, hbw⟩
end Go.Proofs.YtbjdbpdgacfcpaaGreat
end
