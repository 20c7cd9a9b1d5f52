/- The helper functions of the laws for Scenario: a copy, a comparison, marks. Each contract holds for every argument of the stated shape. -/
import Derived.Test.YthcnkcoplgdlkaaLaw
namespace Go.Proofs.Ythcnkcoplgdlkaa
open Go.RowKit Go.Deep Go.BigFrame

structure Scenario where
  rate : Int
  death : Int
def Scenario.row (r : Scenario) : List Value := [.int .i64 r.rate, .int .i64 r.death]
def scenarioRows (xs : List Scenario) : List (List Value) := xs.map Scenario.row
theorem scenarioRows_get {xs : List Scenario} {k : Nat} {x : Scenario} (h : xs[k]? = some x) : (scenarioRows xs)[k]? = some x.row := by simp [scenarioRows, h]
theorem scenarioRows_length (xs : List Scenario) : (scenarioRows xs).length = xs.length := by simp [scenarioRows]
theorem scenarioRows_all (xs : List Scenario) : ∀ r ∈ scenarioRows xs, r.length = 2 := by
  intro r hr; obtain ⟨x, _, rfl⟩ := List.mem_map.1 hr; rfl
theorem Scenario.oneCell (x : Scenario) : ∀ v ∈ x.row, v.oneCell' = true := by simp [Scenario.row, Value.oneCell']
theorem Scenario.info : (Try.prog.info? 36).map (fun i => (i.zero, i.size, i.bytes)) = some (some (.agg #[.int .i64 0, .int .i64 0]), 2, 16) := by kernel_rfl
theorem Scenario.size : (Try.prog.info? 36).map (·.size) = some 2 := by kernel_rfl
theorem Scenario.sizeL : (Try.prog.info? 28).map (·.size) = some 2 := by kernel_rfl

theorem Scenario.cells {x : Scenario} {w : World} {p : Addr} (hc : ∀ (j : Nat) (v : Value), x.row[j]? = some v → w.cell? (p.add j) = some v) : w.cell? p = some (.int .i64 x.rate) ∧ w.cell? ⟨p.block, p.off + 1, none⟩ = some (.int .i64 x.death) := by
  refine ⟨by have := hc 0 _ rfl; rwa [Addr.add_zero'] at this, hc 1 _ rfl⟩
def Scenario.fits (x : Scenario) : Prop := In64 x.rate ∧ In64 x.death
theorem Scenario.of_nums : ∀ (rows : List (List Int)), (∀ r ∈ rows, r.length = 2 ∧ ∀ z ∈ r, In64 z) → ∃ xs : List Scenario, xs.length = rows.length ∧ scenarioRows xs = numRows rows ∧ ∀ x ∈ xs, x.fits
  | [], _ => ⟨[], rfl, rfl, by simp⟩
  | q :: rest, h => by
    obtain ⟨xs, hl, hr, hf⟩ := Scenario.of_nums rest fun r hr => h r (by simp [hr])
    obtain ⟨hq, hz⟩ := h q (by simp)
    match q, hq with
    | [z0, z1], _ =>
      refine ⟨⟨z0, z1⟩ :: xs, by simp [hl], by rw [scenarioRows, List.map_cons, numRows, List.map_cons, ← numRows, ← hr]; rfl, fun x hx => ?_⟩
      rcases List.mem_cons.1 hx with rfl | hx
      · exact ⟨hz z0 (by simp), hz z1 (by simp)⟩
      · exact hf x hx
theorem Scenario.of_num {zs : List Int} (hl : zs.length = 2) (hz : ∀ z ∈ zs, In64 z) : ∃ x : Scenario, (zs.map (Value.int .i64)).toArray = x.row.toArray ∧ x.fits := by
  match zs, hl with
  | [z0, z1], _ => exact ⟨⟨z0, z1⟩, rfl, hz z0 (by simp), hz z1 (by simp)⟩

theorem Scenario.intCells : IntCells Try.prog 28 2 := by
  refine intCells_flat Try.underlying28 (by kernel_rfl) Try.underlying2 (by kernel_rfl) fun j hj => ?_
  rcases (by omega : j = 0 ∨ j = 1) with rfl | rfl
  all_goals exact ⟨_, rfl, rfl, rfl⟩

theorem toScenario_any (x : Scenario) (w : World) :
    Calls Try.prog 15 #[.agg x.row.toArray] w fun e' w' => e' = .returned (.agg x.row.toArray) ∧ Below w.heap.size w w' := by
  unfold Scenario.row
  go_enter Try.func15, Try.ntmps15
  go_wp2
  refine bodyPost_ret (v := .agg x.row.toArray) (by simp [results, Try.results15, go_sem, Scenario.row]) rfl ⟨rfl, ?_⟩
  exact (((Below.refl _ _).alloc (Nat.le_refl _) _).alloc (by simp) _).alloc (by simp; omega) _

theorem eqScenario_any (x : Scenario) (w : World) :
    Calls Try.prog 149 #[.agg x.row.toArray, .agg x.row.toArray] w fun e' w' => e' = .returned (.bool true) ∧ Below w.heap.size w w' := by
  unfold Scenario.row
  go_enter Try.func149, Try.ntmps149
  go_wp2
  go_ret
  exact ⟨rfl, ((Below.refl _ _).alloc (Nat.le_refl _) _).alloc (by simp) _⟩

theorem szScenarioS_yes (A : Option Addr) (n cap : Nat) (left : Int) (w : World) (h0 : (n : Int) ≤ left) (h1 : left ≤ 1048576) :
    Calls Try.prog 73 #[.slice A n cap, .int .i64 left] w fun e' w' => e' = .returned (.int .i64 (left - (n : Int))) ∧ w = w' := by
  have h2 : ¬ (left - (n : Int) < 0) := by omega
  go_enter Try.func73, Try.ntmps73
  go_wp2
  go_ret
  exact ⟨rfl, rfl⟩
theorem szScenarioS_no (A : Option Addr) (n cap : Nat) (left : Int) (w : World) (hn : n ≤ 9223372036854775807) (h0 : left < (n : Int)) (h1 : 0 ≤ left) (h2' : left ≤ 1048576) :
    Calls Try.prog 73 #[.slice A n cap, .int .i64 left] w fun e' w' => e' = .returned (.int .i64 (-1)) ∧ w = w' := by
  have h2 : (left - (n : Int) < 0) := by omega
  go_enter Try.func73, Try.ntmps73
  go_wp2
  go_ret
  exact ⟨rfl, rfl⟩

set_option maxHeartbeats 400000 in
theorem toScenarioS_any (A : Option Addr) (n cap : Nat) (xs : List Scenario) (w : World) (hn : n ≤ 1048576) (hl : xs.length = n) (hX : Rd w w.heap.size A 2 (scenarioRows xs)) :
    Calls Try.prog 75 #[.slice A n cap] w fun e' w' => ∃ g, e' = .returned (.slice (some ⟨g, 0, none⟩) n n) ∧ Res w.heap.size w' 36 2 (some ⟨g, 0, none⟩) n n (scenarioRows xs) ∧ Below w.heap.size w w' := by
  obtain ⟨i0, hi0, hz0, hz1, hz2⟩ := info_parts Scenario.info
  have hmk := fun W => run_make_rowN (P := Try.prog) 85 36 i0 _ Try.underlying85 hi0 hz0 .i64 .i64 n n (Nat.le_refl _) (by rw [hz2]; omega) (by omega) W
  rw [hz1] at hmk
  have HX := Lib.hid hX; clear hX
  have HL := Lib.hid hl; clear hl
  clear hi0 hz0 hz1 hz2
  go_enter Try.func75, Try.ntmps75
  go_wp2
  clear hmk
  go_loopw [4] (fun i wr => ∃ k : Nat, k ≤ n ∧ i = .int .i64 k ∧ (∃ cs, Blk wr w.heap.size 36 cs ∧ cs.size = n * 2 ∧ Filled cs 2 (scenarioRows xs) k) ∧ Below w.heap.size w wr) (fun i _ => n - (intOf i).toNat)
  case atStart => exact ⟨0, by omega, rfl, ⟨_, Blk.new _ _ _, by simp [madeCells], Filled.zero⟩, (Below.refl _ _).alloc (Nat.le_refl _) _⟩
  case round =>
    obtain ⟨k, hk, rfl, ⟨cs, hcs, hsz, hcs2⟩, hb⟩ := hrel
    have Hcs2 := Lib.hid hcs2; clear hcs2
    have Hsz := Lib.hid hsz; clear hsz
    have Hcs := Lib.hid hcs; clear hcs
    by_cases hlt : k < n
    · obtain ⟨x, hx⟩ := get_of_lt (xs := xs) (k := k) (by rw [HL.out]; exact hlt)
      obtain ⟨ad, rfl, had, _, hc⟩ := (HX.out.below hb).at' (scenarioRows_get hx)
      have Hc := Lib.hid hc; clear hc
      have Hx := Lib.hid hx; clear hx
      go_wp2_with (refine wpList_load_agg rfl 28 _ rfl (ad.add (k * 2)) rfl x.row Hc.out _ Try.underlying28 rfl Scenario.sizeL ?_)
      refine (toScenario_any x _).mono ?_
      rintro e w1 ⟨rfl, hb1⟩
      have Hcs1 := Lib.hid (Hcs.out.below' hb1)
      have hlt' : w.heap.size < w1.heap.size := Hcs1.out.lt
      have hfit : k * 2 + 2 ≤ cs.size := by rw [Hsz.out]; omega
      go_wp2_with (refine wpList_store_agg rfl 36 _ _ rfl w.heap.size (k * 2) x.row rfl rfl 36 cs Hcs1.out Scenario.size hfit x.oneCell ?_)
      intro w2 hcs2 hg2 hs2
      have Hcs2' := Lib.hid hcs2; clear hcs2
      have hb2 : Below w.heap.size w w2 := ((hb.trans (hb1.mono hb.size))).trans (below_grown hg2 (by omega))
      have Hs2 := Lib.hid hs2; clear hs2
      go_wp2
      go_roundw
      case rel => exact ⟨k + 1, by omega, by go_num, ⟨_, Hcs2'.out, by rw [putAt_size (by exact hfit)]; exact Hsz.out, Hcs2.out.step (scenarioRows_get Hx.out) rfl (scenarioRows_all xs) hfit⟩, hb2⟩
      case measure => simp [intOf]; omega
    · have hkn : k = n := by omega
      subst hkn
      go_wp2
      go_ret
      refine ⟨w.heap.size, rfl, Filled.res Hcs.out Hcs2.out (by rw [scenarioRows_length, HL.out]) Hsz.out (Nat.le_refl _) (by unfold maxLen; omega) (scenarioRows_all xs), hb⟩

set_option maxHeartbeats 1000000 in
theorem eqScenarioS_any (A A' : Option Addr) (n cap cap' : Nat) (xs : List Scenario) (w : World) (hn : n ≤ 140737488355328) (hl : xs.length = n) (hX : Rd w w.heap.size A 2 (scenarioRows xs)) (hX' : Rd w w.heap.size A' 2 (scenarioRows xs)) :
    Calls Try.prog 77 #[.slice A n cap, .slice A' n cap'] w fun e' w' => e' = .returned (.bool true) ∧ Below w.heap.size w w' := by
  have HX := Lib.hid hX; clear hX
  have HX' := Lib.hid hX'; clear hX'
  have HL := Lib.hid hl; clear hl
  go_enter Try.func77, Try.ntmps77
  go_wp2
  go_loopw [5] (fun i wr => ∃ k : Nat, k ≤ n ∧ i = .int .i64 k ∧ Below w.heap.size w wr) (fun i _ => n - (intOf i).toNat)
  case atStart => exact ⟨0, by omega, rfl, Below.refl _ _⟩
  case round =>
    obtain ⟨k, hk, rfl, hb⟩ := hrel
    by_cases hlt : k < n
    · obtain ⟨x, hx⟩ := get_of_lt (xs := xs) (k := k) (by rw [HL.out]; exact hlt)
      obtain ⟨ad, rfl, had, _, hc⟩ := (HX.out.below hb).at' (scenarioRows_get hx)
      obtain ⟨ad', rfl, had', _, hc'⟩ := (HX'.out.below hb).at' (scenarioRows_get hx)
      clear hx
      have c0 : wr.cell? (ad.add (k * 2)) = some (.int .i64 x.rate) := by have := hc 0 _ rfl; rwa [Addr.add_zero'] at this
      have c1 : wr.cell? ⟨(ad.add (k * 2)).block, (ad.add (k * 2)).off + 1, none⟩ = some (.int .i64 x.death) := hc 1 _ rfl
      have d0 : wr.cell? (ad'.add (k * 2)) = some (.int .i64 x.rate) := by have := hc' 0 _ rfl; rwa [Addr.add_zero'] at this
      have d1 : wr.cell? ⟨(ad'.add (k * 2)).block, (ad'.add (k * 2)).off + 1, none⟩ = some (.int .i64 x.death) := hc' 1 _ rfl
      clear hc hc'
      have hS : ∀ w' : World, Below wr.heap.size wr w' → (Below w.heap.size w w' ∧ w'.cell? (ad.add (k * 2)) = some (.int .i64 x.rate) ∧ w'.cell? ⟨(ad.add (k * 2)).block, (ad.add (k * 2)).off + 1, none⟩ = some (.int .i64 x.death) ∧ w'.cell? (ad'.add (k * 2)) = some (.int .i64 x.rate) ∧ w'.cell? ⟨(ad'.add (k * 2)).block, (ad'.add (k * 2)).off + 1, none⟩ = some (.int .i64 x.death)) :=
        fun w' h => ⟨hb.trans (h.mono hb.size), (h.cell (by show (ad.add (k * 2)).block < _; rw [block_of_add]; have := hb.size; omega)).trans c0, (h.cell (by show (ad.add (k * 2)).block < _; rw [block_of_add]; have := hb.size; omega)).trans c1, (h.cell (by show (ad'.add (k * 2)).block < _; rw [block_of_add]; have := hb.size; omega)).trans d0, (h.cell (by show (ad'.add (k * 2)).block < _; rw [block_of_add]; have := hb.size; omega)).trans d1⟩
      have HS := Lib.hid hS; clear hS
      clear c0 c1 d0 d1
      go_wp2
      go_region_held3 (fun w' => Below w.heap.size w w' ∧ w'.cell? (ad.add (k * 2)) = some (.int .i64 x.rate) ∧ w'.cell? ⟨(ad.add (k * 2)).block, (ad.add (k * 2)).off + 1, none⟩ = some (.int .i64 x.death) ∧ w'.cell? (ad'.add (k * 2)) = some (.int .i64 x.rate) ∧ w'.cell? ⟨(ad'.add (k * 2)).block, (ad'.add (k * 2)).off + 1, none⟩ = some (.int .i64 x.death))
        (first | exact HS.out _ (of_drew hb1) | exact HS.out _ (Below.drew (Below.refl _ _))) ((go_at_call 149; refine (eqScenario_any x _).mono ?_; rintro e1 w1 ⟨rfl, hb1⟩))
      have hb2 : Below w.heap.size w w1 := hb.trans ((of_drew hb1).mono hb.size)
      go_wp2
      go_roundw
      case rel => exact ⟨k + 1, by omega, by go_num, hb2⟩
      case measure => simp [intOf]; omega
    · go_wp2
      go_ret
      exact ⟨rfl, hb⟩



end Go.Proofs.Ythcnkcoplgdlkaa
