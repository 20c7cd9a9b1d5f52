/- The helper functions of the laws for Entry: a copy, a comparison, marks. Each contract holds for every argument of the stated shape. -/
import Derived.Test.YtbfoolfojeohpaaDoorLaw
namespace Go.Proofs.YtbfoolfojeohpaaDoor
open Go.RowKit Go.Deep Go.BigFrame

structure Entry where
  month : Int
  debit : Int
  credit : Int
  amount : Int
def Entry.row (r : Entry) : List Value := [.int .i64 r.month, .int .i64 r.debit, .int .i64 r.credit, .int .i64 r.amount]
def entryRows (xs : List Entry) : List (List Value) := xs.map Entry.row
theorem entryRows_get {xs : List Entry} {k : Nat} {x : Entry} (h : xs[k]? = some x) : (entryRows xs)[k]? = some x.row := by simp [entryRows, h]
theorem entryRows_length (xs : List Entry) : (entryRows xs).length = xs.length := by simp [entryRows]
theorem entryRows_all (xs : List Entry) : ∀ r ∈ entryRows xs, r.length = 4 := by
  intro r hr; obtain ⟨x, _, rfl⟩ := List.mem_map.1 hr; rfl
theorem Entry.oneCell (x : Entry) : ∀ v ∈ x.row, v.oneCell' = true := by simp [Entry.row, Value.oneCell']
theorem Entry.info : (Tryd.prog.info? 34).map (fun i => (i.zero, i.size, i.bytes)) = some (some (.agg #[.int .i64 0, .int .i64 0, .int .i64 0, .int .i64 0]), 4, 32) := by kernel_rfl
theorem Entry.size : (Tryd.prog.info? 34).map (·.size) = some 4 := by kernel_rfl
theorem Entry.sizeL : (Tryd.prog.info? 37).map (·.size) = some 4 := by kernel_rfl

theorem Entry.cells {x : Entry} {w : World} {p : Addr} (hc : ∀ (j : Nat) (v : Value), x.row[j]? = some v → w.cell? (p.add j) = some v) : w.cell? p = some (.int .i64 x.month) ∧ w.cell? ⟨p.block, p.off + 1, none⟩ = some (.int .i64 x.debit) ∧ w.cell? ⟨p.block, p.off + 2, none⟩ = some (.int .i64 x.credit) ∧ w.cell? ⟨p.block, p.off + 3, none⟩ = some (.int .i64 x.amount) := by
  refine ⟨by have := hc 0 _ rfl; rwa [Addr.add_zero'] at this, hc 1 _ rfl, hc 2 _ rfl, hc 3 _ rfl⟩
def Entry.fits (x : Entry) : Prop := In64 x.month ∧ In64 x.debit ∧ In64 x.credit ∧ In64 x.amount
theorem Entry.of_nums : ∀ (rows : List (List Int)), (∀ r ∈ rows, r.length = 4 ∧ ∀ z ∈ r, In64 z) → ∃ xs : List Entry, xs.length = rows.length ∧ entryRows xs = numRows rows ∧ ∀ x ∈ xs, x.fits
  | [], _ => ⟨[], rfl, rfl, by simp⟩
  | q :: rest, h => by
    obtain ⟨xs, hl, hr, hf⟩ := Entry.of_nums rest fun r hr => h r (by simp [hr])
    obtain ⟨hq, hz⟩ := h q (by simp)
    match q, hq with
    | [z0, z1, z2, z3], _ =>
      refine ⟨⟨z0, z1, z2, z3⟩ :: xs, by simp [hl], by rw [entryRows, List.map_cons, numRows, List.map_cons, ← numRows, ← hr]; rfl, fun x hx => ?_⟩
      rcases List.mem_cons.1 hx with rfl | hx
      · exact ⟨hz z0 (by simp), hz z1 (by simp), hz z2 (by simp), hz z3 (by simp)⟩
      · exact hf x hx
theorem Entry.of_num {zs : List Int} (hl : zs.length = 4) (hz : ∀ z ∈ zs, In64 z) : ∃ x : Entry, (zs.map (Value.int .i64)).toArray = x.row.toArray ∧ x.fits := by
  match zs, hl with
  | [z0, z1, z2, z3], _ => exact ⟨⟨z0, z1, z2, z3⟩, rfl, hz z0 (by simp), hz z1 (by simp), hz z2 (by simp), hz z3 (by simp)⟩

theorem Entry.intCells : IntCells Tryd.prog 37 4 := by
  refine intCells_flat Tryd.underlying37 (by kernel_rfl) Tryd.underlying2 (by kernel_rfl) fun j hj => ?_
  rcases (by omega : j = 0 ∨ j = 1 ∨ j = 2 ∨ j = 3) with rfl | rfl | rfl | rfl
  all_goals exact ⟨_, rfl, rfl, rfl⟩

theorem toEntry_any (x : Entry) (w : World) :
    Calls Tryd.prog 12 #[.agg x.row.toArray] w fun e' w' => e' = .returned (.agg x.row.toArray) ∧ Below w.heap.size w w' := by
  unfold Entry.row
  go_enter Tryd.func12, Tryd.ntmps12
  go_wp2
  refine bodyPost_ret (v := .agg x.row.toArray) (by simp [results, Tryd.results12, go_sem, Entry.row]) rfl ⟨rfl, ?_⟩
  exact (((Below.refl _ _).alloc (Nat.le_refl _) _).alloc (by simp) _).alloc (by simp; omega) _

theorem eqEntry_any (x : Entry) (w : World) :
    Calls Tryd.prog 18 #[.agg x.row.toArray, .agg x.row.toArray] w fun e' w' => e' = .returned (.bool true) ∧ Below w.heap.size w w' := by
  unfold Entry.row
  go_enter Tryd.func18, Tryd.ntmps18
  go_wp2
  go_ret
  exact ⟨rfl, ((Below.refl _ _).alloc (Nat.le_refl _) _).alloc (by simp) _⟩

theorem szEntryS_yes (A : Option Addr) (n cap : Nat) (left : Int) (w : World) (h0 : (n : Int) ≤ left) (h1 : left ≤ 1048576) :
    Calls Tryd.prog 4 #[.slice A n cap, .int .i64 left] w fun e' w' => e' = .returned (.int .i64 (left - (n : Int))) ∧ w = w' := by
  have h2 : ¬ (left - (n : Int) < 0) := by omega
  go_enter Tryd.func4, Tryd.ntmps4
  go_wp2
  go_ret
  exact ⟨rfl, rfl⟩
theorem szEntryS_no (A : Option Addr) (n cap : Nat) (left : Int) (w : World) (hn : n ≤ 9223372036854775807) (h0 : left < (n : Int)) (h1 : 0 ≤ left) (h2' : left ≤ 1048576) :
    Calls Tryd.prog 4 #[.slice A n cap, .int .i64 left] w fun e' w' => e' = .returned (.int .i64 (-1)) ∧ w = w' := by
  have h2 : (left - (n : Int) < 0) := by omega
  go_enter Tryd.func4, Tryd.ntmps4
  go_wp2
  go_ret
  exact ⟨rfl, rfl⟩

set_option maxHeartbeats 400000 in
theorem toEntryS_any (A : Option Addr) (n cap : Nat) (xs : List Entry) (w : World) (hn : n ≤ 1048576) (hl : xs.length = n) (hX : Rd w w.heap.size A 4 (entryRows xs)) :
    Calls Tryd.prog 6 #[.slice A n cap] w fun e' w' => ∃ g, e' = .returned (.slice (some ⟨g, 0, none⟩) n n) ∧ Res w.heap.size w' 34 4 (some ⟨g, 0, none⟩) n n (entryRows xs) ∧ Below w.heap.size w w' := by
  obtain ⟨i0, hi0, hz0, hz1, hz2⟩ := info_parts Entry.info
  have hmk := fun W => run_make_rowN (P := Tryd.prog) 26 34 i0 _ Tryd.underlying26 hi0 hz0 .i64 .i64 n n (Nat.le_refl _) (by rw [hz2]; omega) (by omega) W
  rw [hz1] at hmk
  have HX := Lib.hid hX; clear hX
  have HL := Lib.hid hl; clear hl
  clear hi0 hz0 hz1 hz2
  go_enter Tryd.func6, Tryd.ntmps6
  go_wp2
  clear hmk
  go_loopw [4] (fun i wr => ∃ k : Nat, k ≤ n ∧ i = .int .i64 k ∧ (∃ cs, Blk wr w.heap.size 34 cs ∧ cs.size = n * 4 ∧ Filled cs 4 (entryRows xs) k) ∧ Below w.heap.size w wr) (fun i _ => n - (intOf i).toNat)
  case atStart => exact ⟨0, by omega, rfl, ⟨_, Blk.new _ _ _, by simp [madeCells], Filled.zero⟩, (Below.refl _ _).alloc (Nat.le_refl _) _⟩
  case round =>
    obtain ⟨k, hk, rfl, ⟨cs, hcs, hsz, hcs2⟩, hb⟩ := hrel
    have Hcs2 := Lib.hid hcs2; clear hcs2
    have Hsz := Lib.hid hsz; clear hsz
    have Hcs := Lib.hid hcs; clear hcs
    by_cases hlt : k < n
    · obtain ⟨x, hx⟩ := get_of_lt (xs := xs) (k := k) (by rw [HL.out]; exact hlt)
      obtain ⟨ad, rfl, had, _, hc⟩ := (HX.out.below hb).at' (entryRows_get hx)
      have Hc := Lib.hid hc; clear hc
      have Hx := Lib.hid hx; clear hx
      go_wp2_with (refine wpList_load_agg rfl 37 _ rfl (ad.add (k * 4)) rfl x.row Hc.out _ Tryd.underlying37 rfl Entry.sizeL ?_)
      refine (toEntry_any x _).mono ?_
      rintro e w1 ⟨rfl, hb1⟩
      have Hcs1 := Lib.hid (Hcs.out.below' hb1)
      have hlt' : w.heap.size < w1.heap.size := Hcs1.out.lt
      have hfit : k * 4 + 4 ≤ cs.size := by rw [Hsz.out]; omega
      go_wp2_with (refine wpList_store_agg rfl 34 _ _ rfl w.heap.size (k * 4) x.row rfl rfl 34 cs Hcs1.out Entry.size hfit x.oneCell ?_)
      intro w2 hcs2 hg2 hs2
      have Hcs2' := Lib.hid hcs2; clear hcs2
      have hb2 : Below w.heap.size w w2 := ((hb.trans (hb1.mono hb.size))).trans (below_grown hg2 (by omega))
      have Hs2 := Lib.hid hs2; clear hs2
      go_wp2
      go_roundw
      case rel => exact ⟨k + 1, by omega, by go_num, ⟨_, Hcs2'.out, by rw [putAt_size (by exact hfit)]; exact Hsz.out, Hcs2.out.step (entryRows_get Hx.out) rfl (entryRows_all xs) hfit⟩, hb2⟩
      case measure => simp [intOf]; omega
    · have hkn : k = n := by omega
      subst hkn
      go_wp2
      go_ret
      refine ⟨w.heap.size, rfl, Filled.res Hcs.out Hcs2.out (by rw [entryRows_length, HL.out]) Hsz.out (Nat.le_refl _) (by unfold maxLen; omega) (entryRows_all xs), hb⟩

set_option maxHeartbeats 1000000 in
theorem eqEntryS_any (A A' : Option Addr) (n cap cap' : Nat) (xs : List Entry) (w : World) (hn : n ≤ 140737488355328) (hl : xs.length = n) (hX : Rd w w.heap.size A 4 (entryRows xs)) (hX' : Rd w w.heap.size A' 4 (entryRows xs)) :
    Calls Tryd.prog 8 #[.slice A n cap, .slice A' n cap'] w fun e' w' => e' = .returned (.bool true) ∧ Below w.heap.size w w' := by
  have HX := Lib.hid hX; clear hX
  have HX' := Lib.hid hX'; clear hX'
  have HL := Lib.hid hl; clear hl
  go_enter Tryd.func8, Tryd.ntmps8
  go_wp2
  go_loopw [5] (fun i wr => ∃ k : Nat, k ≤ n ∧ i = .int .i64 k ∧ Below w.heap.size w wr) (fun i _ => n - (intOf i).toNat)
  case atStart => exact ⟨0, by omega, rfl, Below.refl _ _⟩
  case round =>
    obtain ⟨k, hk, rfl, hb⟩ := hrel
    by_cases hlt : k < n
    · obtain ⟨x, hx⟩ := get_of_lt (xs := xs) (k := k) (by rw [HL.out]; exact hlt)
      obtain ⟨ad, rfl, had, _, hc⟩ := (HX.out.below hb).at' (entryRows_get hx)
      obtain ⟨ad', rfl, had', _, hc'⟩ := (HX'.out.below hb).at' (entryRows_get hx)
      clear hx
      have c0 : wr.cell? (ad.add (k * 4)) = some (.int .i64 x.month) := by have := hc 0 _ rfl; rwa [Addr.add_zero'] at this
      have c1 : wr.cell? ⟨(ad.add (k * 4)).block, (ad.add (k * 4)).off + 1, none⟩ = some (.int .i64 x.debit) := hc 1 _ rfl
      have c2 : wr.cell? ⟨(ad.add (k * 4)).block, (ad.add (k * 4)).off + 2, none⟩ = some (.int .i64 x.credit) := hc 2 _ rfl
      have c3 : wr.cell? ⟨(ad.add (k * 4)).block, (ad.add (k * 4)).off + 3, none⟩ = some (.int .i64 x.amount) := hc 3 _ rfl
      have d0 : wr.cell? (ad'.add (k * 4)) = some (.int .i64 x.month) := by have := hc' 0 _ rfl; rwa [Addr.add_zero'] at this
      have d1 : wr.cell? ⟨(ad'.add (k * 4)).block, (ad'.add (k * 4)).off + 1, none⟩ = some (.int .i64 x.debit) := hc' 1 _ rfl
      have d2 : wr.cell? ⟨(ad'.add (k * 4)).block, (ad'.add (k * 4)).off + 2, none⟩ = some (.int .i64 x.credit) := hc' 2 _ rfl
      have d3 : wr.cell? ⟨(ad'.add (k * 4)).block, (ad'.add (k * 4)).off + 3, none⟩ = some (.int .i64 x.amount) := hc' 3 _ rfl
      clear hc hc'
      have hS : ∀ w' : World, Below wr.heap.size wr w' → (Below w.heap.size w w' ∧ w'.cell? (ad.add (k * 4)) = some (.int .i64 x.month) ∧ w'.cell? ⟨(ad.add (k * 4)).block, (ad.add (k * 4)).off + 1, none⟩ = some (.int .i64 x.debit) ∧ w'.cell? ⟨(ad.add (k * 4)).block, (ad.add (k * 4)).off + 2, none⟩ = some (.int .i64 x.credit) ∧ w'.cell? ⟨(ad.add (k * 4)).block, (ad.add (k * 4)).off + 3, none⟩ = some (.int .i64 x.amount) ∧ w'.cell? (ad'.add (k * 4)) = some (.int .i64 x.month) ∧ w'.cell? ⟨(ad'.add (k * 4)).block, (ad'.add (k * 4)).off + 1, none⟩ = some (.int .i64 x.debit) ∧ w'.cell? ⟨(ad'.add (k * 4)).block, (ad'.add (k * 4)).off + 2, none⟩ = some (.int .i64 x.credit) ∧ w'.cell? ⟨(ad'.add (k * 4)).block, (ad'.add (k * 4)).off + 3, none⟩ = some (.int .i64 x.amount)) :=
        fun w' h => ⟨hb.trans (h.mono hb.size), (h.cell (by show (ad.add (k * 4)).block < _; rw [block_of_add]; have := hb.size; omega)).trans c0, (h.cell (by show (ad.add (k * 4)).block < _; rw [block_of_add]; have := hb.size; omega)).trans c1, (h.cell (by show (ad.add (k * 4)).block < _; rw [block_of_add]; have := hb.size; omega)).trans c2, (h.cell (by show (ad.add (k * 4)).block < _; rw [block_of_add]; have := hb.size; omega)).trans c3, (h.cell (by show (ad'.add (k * 4)).block < _; rw [block_of_add]; have := hb.size; omega)).trans d0, (h.cell (by show (ad'.add (k * 4)).block < _; rw [block_of_add]; have := hb.size; omega)).trans d1, (h.cell (by show (ad'.add (k * 4)).block < _; rw [block_of_add]; have := hb.size; omega)).trans d2, (h.cell (by show (ad'.add (k * 4)).block < _; rw [block_of_add]; have := hb.size; omega)).trans d3⟩
      have HS := Lib.hid hS; clear hS
      clear c0 c1 c2 c3 d0 d1 d2 d3
      go_wp2
      go_region_held3 (fun w' => Below w.heap.size w w' ∧ w'.cell? (ad.add (k * 4)) = some (.int .i64 x.month) ∧ w'.cell? ⟨(ad.add (k * 4)).block, (ad.add (k * 4)).off + 1, none⟩ = some (.int .i64 x.debit) ∧ w'.cell? ⟨(ad.add (k * 4)).block, (ad.add (k * 4)).off + 2, none⟩ = some (.int .i64 x.credit) ∧ w'.cell? ⟨(ad.add (k * 4)).block, (ad.add (k * 4)).off + 3, none⟩ = some (.int .i64 x.amount) ∧ w'.cell? (ad'.add (k * 4)) = some (.int .i64 x.month) ∧ w'.cell? ⟨(ad'.add (k * 4)).block, (ad'.add (k * 4)).off + 1, none⟩ = some (.int .i64 x.debit) ∧ w'.cell? ⟨(ad'.add (k * 4)).block, (ad'.add (k * 4)).off + 2, none⟩ = some (.int .i64 x.credit) ∧ w'.cell? ⟨(ad'.add (k * 4)).block, (ad'.add (k * 4)).off + 3, none⟩ = some (.int .i64 x.amount))
        (first | exact HS.out _ (of_drew hb1) | exact HS.out _ (Below.drew (Below.refl _ _))) ((go_at_call 18; refine (eqEntry_any x _).mono ?_; rintro e1 w1 ⟨rfl, hb1⟩))
      have hb2 : Below w.heap.size w w1 := hb.trans ((of_drew hb1).mono hb.size)
      go_wp2
      go_roundw
      case rel => exact ⟨k + 1, by omega, by go_num, hb2⟩
      case measure => simp [intOf]; omega
    · go_wp2
      go_ret
      exact ⟨rfl, hb⟩



end Go.Proofs.YtbfoolfojeohpaaDoor
