/- The helper functions of the laws for Entry: a copy, a comparison, marks. Each contract holds for every argument of the stated shape. -/
import Derived.Test.YtlbllonpodckgaaGreatDoorLaw
namespace Go.Proofs.YtlbllonpodckgaaGreatDoor
open Go.RowKit Go.Deep Go.BigFrame

structure Entry where
  month : Int
  debit : Int
  credit : Int
  amount : Int
def Entry.row (r : Entry) : List Value := [.int .i64 r.month, .int .i64 r.debit, .int .i64 r.credit, .int .i64 r.amount]
def entryRows (xs : List Entry) : List (List Value) := xs.map Entry.row
theorem entryRows_get {xs : List Entry} {k : Nat} {x : Entry} (h : xs[k]? = some x) : (entryRows xs)[k]? = some x.row := by simp [entryRows, h]
theorem entryRows_length (xs : List Entry) : (entryRows xs).length = xs.length := by simp [entryRows]
theorem entryRows_all (xs : List Entry) : ∀ r ∈ entryRows xs, r.length = 4 := by
  intro r hr; obtain ⟨x, _, rfl⟩ := List.mem_map.1 hr; rfl
theorem Entry.oneCell (x : Entry) : ∀ v ∈ x.row, v.oneCell' = true := by simp [Entry.row, Value.oneCell']
theorem Entry.info : (Tryz.prog.info? 78).map (fun i => (i.zero, i.size, i.bytes)) = some (some (.agg #[.int .i64 0, .int .i64 0, .int .i64 0, .int .i64 0]), 4, 32) := by kernel_rfl
theorem Entry.size : (Tryz.prog.info? 78).map (·.size) = some 4 := by kernel_rfl

theorem Entry.cells {x : Entry} {w : World} {p : Addr} (hc : ∀ (j : Nat) (v : Value), x.row[j]? = some v → w.cell? (p.add j) = some v) : w.cell? p = some (.int .i64 x.month) ∧ w.cell? ⟨p.block, p.off + 1, none⟩ = some (.int .i64 x.debit) ∧ w.cell? ⟨p.block, p.off + 2, none⟩ = some (.int .i64 x.credit) ∧ w.cell? ⟨p.block, p.off + 3, none⟩ = some (.int .i64 x.amount) := by
  refine ⟨by have := hc 0 _ rfl; rwa [Addr.add_zero'] at this, hc 1 _ rfl, hc 2 _ rfl, hc 3 _ rfl⟩
def Entry.fits (x : Entry) : Prop := In64 x.month ∧ In64 x.debit ∧ In64 x.credit ∧ In64 x.amount
theorem Entry.of_nums : ∀ (rows : List (List Int)), (∀ r ∈ rows, r.length = 4 ∧ ∀ z ∈ r, In64 z) → ∃ xs : List Entry, xs.length = rows.length ∧ entryRows xs = numRows rows ∧ ∀ x ∈ xs, x.fits
  | [], _ => ⟨[], rfl, rfl, by simp⟩
  | q :: rest, h => by
    obtain ⟨xs, hl, hr, hf⟩ := Entry.of_nums rest fun r hr => h r (by simp [hr])
    obtain ⟨hq, hz⟩ := h q (by simp)
    match q, hq with
    | [z0, z1, z2, z3], _ =>
      refine ⟨⟨z0, z1, z2, z3⟩ :: xs, by simp [hl], by rw [entryRows, List.map_cons, numRows, List.map_cons, ← numRows, ← hr]; rfl, fun x hx => ?_⟩
      rcases List.mem_cons.1 hx with rfl | hx
      · exact ⟨hz z0 (by simp), hz z1 (by simp), hz z2 (by simp), hz z3 (by simp)⟩
      · exact hf x hx
theorem Entry.of_num {zs : List Int} (hl : zs.length = 4) (hz : ∀ z ∈ zs, In64 z) : ∃ x : Entry, (zs.map (Value.int .i64)).toArray = x.row.toArray ∧ x.fits := by
  match zs, hl with
  | [z0, z1, z2, z3], _ => exact ⟨⟨z0, z1, z2, z3⟩, rfl, hz z0 (by simp), hz z1 (by simp), hz z2 (by simp), hz z3 (by simp)⟩



theorem eqEntry_any (x : Entry) (w : World) :
    Calls Tryz.prog 67 #[.agg x.row.toArray, .agg x.row.toArray] w fun e' w' => e' = .returned (.bool true) ∧ Below w.heap.size w w' := by
  unfold Entry.row
  go_enter Tryz.func67, Tryz.ntmps67
  go_wp2
  go_ret
  exact ⟨rfl, ((Below.refl _ _).alloc (Nat.le_refl _) _).alloc (by simp) _⟩



set_option maxHeartbeats 1000000 in
theorem eqEntryS_any (A A' : Option Addr) (n cap cap' : Nat) (xs : List Entry) (w : World) (hn : n ≤ 140737488355328) (hl : xs.length = n) (hX : Rd w w.heap.size A 4 (entryRows xs)) (hX' : Rd w w.heap.size A' 4 (entryRows xs)) :
    Calls Tryz.prog 10 #[.slice A n cap, .slice A' n cap'] w fun e' w' => e' = .returned (.bool true) ∧ Below w.heap.size w w' := by
  have HX := Lib.hid hX; clear hX
  have HX' := Lib.hid hX'; clear hX'
  have HL := Lib.hid hl; clear hl
  go_enter Tryz.func10, Tryz.ntmps10
  go_wp2
  go_loopw [5] (fun i wr => ∃ k : Nat, k ≤ n ∧ i = .int .i64 k ∧ Below w.heap.size w wr) (fun i _ => n - (intOf i).toNat)
  case atStart => exact ⟨0, by omega, rfl, Below.refl _ _⟩
  case round =>
    obtain ⟨k, hk, rfl, hb⟩ := hrel
    by_cases hlt : k < n
    · obtain ⟨x, hx⟩ := get_of_lt (xs := xs) (k := k) (by rw [HL.out]; exact hlt)
      obtain ⟨ad, rfl, had, _, hc⟩ := (HX.out.below hb).at' (entryRows_get hx)
      obtain ⟨ad', rfl, had', _, hc'⟩ := (HX'.out.below hb).at' (entryRows_get hx)
      clear hx
      have c0 : wr.cell? (ad.add (k * 4)) = some (.int .i64 x.month) := by have := hc 0 _ rfl; rwa [Addr.add_zero'] at this
      have c1 : wr.cell? ⟨(ad.add (k * 4)).block, (ad.add (k * 4)).off + 1, none⟩ = some (.int .i64 x.debit) := hc 1 _ rfl
      have c2 : wr.cell? ⟨(ad.add (k * 4)).block, (ad.add (k * 4)).off + 2, none⟩ = some (.int .i64 x.credit) := hc 2 _ rfl
      have c3 : wr.cell? ⟨(ad.add (k * 4)).block, (ad.add (k * 4)).off + 3, none⟩ = some (.int .i64 x.amount) := hc 3 _ rfl
      have d0 : wr.cell? (ad'.add (k * 4)) = some (.int .i64 x.month) := by have := hc' 0 _ rfl; rwa [Addr.add_zero'] at this
      have d1 : wr.cell? ⟨(ad'.add (k * 4)).block, (ad'.add (k * 4)).off + 1, none⟩ = some (.int .i64 x.debit) := hc' 1 _ rfl
      have d2 : wr.cell? ⟨(ad'.add (k * 4)).block, (ad'.add (k * 4)).off + 2, none⟩ = some (.int .i64 x.credit) := hc' 2 _ rfl
      have d3 : wr.cell? ⟨(ad'.add (k * 4)).block, (ad'.add (k * 4)).off + 3, none⟩ = some (.int .i64 x.amount) := hc' 3 _ rfl
      clear hc hc'
      have hS : ∀ w' : World, Below wr.heap.size wr w' → (Below w.heap.size w w' ∧ w'.cell? (ad.add (k * 4)) = some (.int .i64 x.month) ∧ w'.cell? ⟨(ad.add (k * 4)).block, (ad.add (k * 4)).off + 1, none⟩ = some (.int .i64 x.debit) ∧ w'.cell? ⟨(ad.add (k * 4)).block, (ad.add (k * 4)).off + 2, none⟩ = some (.int .i64 x.credit) ∧ w'.cell? ⟨(ad.add (k * 4)).block, (ad.add (k * 4)).off + 3, none⟩ = some (.int .i64 x.amount) ∧ w'.cell? (ad'.add (k * 4)) = some (.int .i64 x.month) ∧ w'.cell? ⟨(ad'.add (k * 4)).block, (ad'.add (k * 4)).off + 1, none⟩ = some (.int .i64 x.debit) ∧ w'.cell? ⟨(ad'.add (k * 4)).block, (ad'.add (k * 4)).off + 2, none⟩ = some (.int .i64 x.credit) ∧ w'.cell? ⟨(ad'.add (k * 4)).block, (ad'.add (k * 4)).off + 3, none⟩ = some (.int .i64 x.amount)) :=
        fun w' h => ⟨hb.trans (h.mono hb.size), (h.cell (by show (ad.add (k * 4)).block < _; rw [block_of_add]; have := hb.size; omega)).trans c0, (h.cell (by show (ad.add (k * 4)).block < _; rw [block_of_add]; have := hb.size; omega)).trans c1, (h.cell (by show (ad.add (k * 4)).block < _; rw [block_of_add]; have := hb.size; omega)).trans c2, (h.cell (by show (ad.add (k * 4)).block < _; rw [block_of_add]; have := hb.size; omega)).trans c3, (h.cell (by show (ad'.add (k * 4)).block < _; rw [block_of_add]; have := hb.size; omega)).trans d0, (h.cell (by show (ad'.add (k * 4)).block < _; rw [block_of_add]; have := hb.size; omega)).trans d1, (h.cell (by show (ad'.add (k * 4)).block < _; rw [block_of_add]; have := hb.size; omega)).trans d2, (h.cell (by show (ad'.add (k * 4)).block < _; rw [block_of_add]; have := hb.size; omega)).trans d3⟩
      have HS := Lib.hid hS; clear hS
      clear c0 c1 c2 c3 d0 d1 d2 d3
      go_wp2
      go_region_held3 (fun w' => Below w.heap.size w w' ∧ w'.cell? (ad.add (k * 4)) = some (.int .i64 x.month) ∧ w'.cell? ⟨(ad.add (k * 4)).block, (ad.add (k * 4)).off + 1, none⟩ = some (.int .i64 x.debit) ∧ w'.cell? ⟨(ad.add (k * 4)).block, (ad.add (k * 4)).off + 2, none⟩ = some (.int .i64 x.credit) ∧ w'.cell? ⟨(ad.add (k * 4)).block, (ad.add (k * 4)).off + 3, none⟩ = some (.int .i64 x.amount) ∧ w'.cell? (ad'.add (k * 4)) = some (.int .i64 x.month) ∧ w'.cell? ⟨(ad'.add (k * 4)).block, (ad'.add (k * 4)).off + 1, none⟩ = some (.int .i64 x.debit) ∧ w'.cell? ⟨(ad'.add (k * 4)).block, (ad'.add (k * 4)).off + 2, none⟩ = some (.int .i64 x.credit) ∧ w'.cell? ⟨(ad'.add (k * 4)).block, (ad'.add (k * 4)).off + 3, none⟩ = some (.int .i64 x.amount))
        (first | exact HS.out _ (of_drew hb1) | exact HS.out _ (Below.drew (Below.refl _ _))) ((go_at_call 67; refine (eqEntry_any x _).mono ?_; rintro e1 w1 ⟨rfl, hb1⟩))
      have hb2 : Below w.heap.size w w1 := hb.trans ((of_drew hb1).mono hb.size)
      go_wp2
      go_roundw
      case rel => exact ⟨k + 1, by omega, by go_num, hb2⟩
      case measure => simp [intOf]; omega
    · go_wp2
      go_ret
      exact ⟨rfl, hb⟩

set_option maxHeartbeats 1000000 in
theorem markEntryS_any (B : Nat) (A : Option Addr) (n cap k0 : Nat) (rows : List (List Value)) (w : World) (hn : n ≤ 1048576) (hk0 : k0 ≤ 1000000000) (hR : Res B w 78 4 A n cap rows) :
    Calls Tryz.prog 11 #[.slice A n cap, .int .i64 (k0 : Int)] w fun e' w' => e' = .returned (.int .i64 ((k0 : Int) + n * 4)) ∧ Turned w w' A n ∧ Marked w' A n 4 k0 := by
  have hA : 0 < n → ∃ g cs, A = some ⟨g, 0, none⟩ ∧ Blk w g 78 cs ∧ n * 4 ≤ cs.size := fun h => by
    obtain ⟨g, cs, e, _, hb, hs, _⟩ := hR.at_ h; exact ⟨g, cs, e, hb, hs⟩
  clear hR
  have HA := Lib.hid hA; clear hA
  go_enter Tryz.func11, Tryz.ntmps11
  go_wp2
  go_loopw [1, 5] (fun q i wr => ∃ k : Nat, k ≤ n ∧ i = .int .i64 k ∧ q = .int .i64 ((k0 : Int) + k * 4) ∧ ((k = 0 ∧ w = wr) ∨ (0 < n ∧ ∃ g cs, A = some ⟨g, 0, none⟩ ∧ Blk wr g 78 cs ∧ n * 4 ≤ cs.size ∧ (∀ j : Nat, j < k * 4 → cs[j]? = some (.int .i64 ((k0 : Int) + j))) ∧ w.grownBy wr (some g)))) (fun _ i _ => n - (intOf i).toNat)
  case atStart => exact ⟨0, by omega, rfl, by simp, .inl ⟨rfl, rfl⟩⟩
  case round =>
    obtain ⟨k, hk, rfl, rfl, hrel⟩ := hrel
    have Hrel := Lib.hid hrel; clear hrel
    by_cases hlt : k < n
    · obtain ⟨g, cs, rfl, hcs, hsz, hcs2, hg⟩ : ∃ g cs, A = some ⟨g, 0, none⟩ ∧ Blk wr g 78 cs ∧ n * 4 ≤ cs.size ∧ (∀ j : Nat, j < k * 4 → cs[j]? = some (.int .i64 ((k0 : Int) + j))) ∧ w.grownBy wr (some g) := by
        rcases Hrel.out with ⟨rfl, rfl⟩ | ⟨_, g, cs, r⟩
        · obtain ⟨g, cs, e, hb, hs⟩ := HA.out (by omega)
          exact ⟨g, cs, e, hb, hs, fun j hj => absurd hj (by omega), World.grownBy.refl _ _⟩
        · exact ⟨g, cs, r⟩
      clear Hrel HA
      obtain ⟨v0, e0⟩ := hcs.has (i := k * 4) (by omega)
      have f0 := hcs.frozen (k * 4)
      obtain ⟨v1, e1⟩ := hcs.has (i := k * 4 + 1) (by omega)
      have f1 := hcs.frozen (k * 4 + 1)
      obtain ⟨v2, e2⟩ := hcs.has (i := k * 4 + 2) (by omega)
      have f2 := hcs.frozen (k * 4 + 2)
      obtain ⟨v3, e3⟩ := hcs.has (i := k * 4 + 3) (by omega)
      have f3 := hcs.frozen (k * 4 + 3)
      have Hcs2 := Lib.hid hcs2; clear hcs2
      have Hcs := Lib.hid hcs; clear hcs
      have Hg := Lib.hid hg; clear hg
      go_wp2
      go_roundw
      case rel => exact ⟨k + 1, by omega, by go_num, by go_num, .inr ⟨by omega, g, _, rfl, ((((Hcs.out).set_ _ _).set_ _ _).set_ _ _).set_ _ _, by simp; omega, by rw [Nat.add_mul]; exact marks_step (marks_step (marks_step (marks_step (Hcs2.out) (by omega) (by go_num)) (by simp; omega) (by go_num)) (by simp; omega) (by go_num)) (by simp; omega) (by go_num), grown_set (grown_set (grown_set (grown_set (Hg.out) _ _) _ _) _ _) _ _⟩⟩
      case measure => simp [intOf]; omega
    · have hkn : k = n := by omega
      subst hkn
      go_wp2
      go_ret
      refine ⟨rfl, ?_⟩
      rcases Hrel.out with ⟨rfl, rfl⟩ | ⟨h0, g, cs, rfl, hb, hs, hc, hg⟩
      · exact ⟨.inl rfl, .inl rfl⟩
      · exact ⟨.inr ⟨h0, g, rfl, hg⟩, .inr ⟨g, rfl, hb.lt, fun j hj => by rw [hb.cell]; exact hc j hj⟩⟩
theorem markEntryS_at (B : Nat) (A : Option Addr) (n cap k0 : Nat) (k : Int) (rows : List (List Value)) (w : World) (hn : n ≤ 1048576) (hk0 : k0 ≤ 1000000000) (hR : Res B w 78 4 A n cap rows) (hk : k = (k0 : Int)) :
    Calls Tryz.prog 11 #[.slice A n cap, .int .i64 k] w fun e' w' => e' = .returned (.int .i64 (k + n * 4)) ∧ Turned w w' A n ∧ Marked w' A n 4 k0 := by
  subst hk; exact markEntryS_any B A n cap k0 rows w hn hk0 hR

set_option maxHeartbeats 1000000 in
theorem heldEntryS_any (A : Option Addr) (n cap k0 : Nat) (w : World) (hn : n ≤ 1048576) (hk0 : k0 ≤ 1000000000) (hM : Marked w A n 4 k0) :
    Calls Tryz.prog 12 #[.slice A n cap, .int .i64 (k0 : Int)] w fun e' w' => e' = .returned (.int .i64 ((k0 : Int) + n * 4)) ∧ w = w' := by
  have HM := Lib.hid hM; clear hM
  go_enter Tryz.func12, Tryz.ntmps12
  go_wp2
  go_loop [1, 5] (fun q i => ∃ k : Nat, k ≤ n ∧ i = .int .i64 k ∧ q = .int .i64 ((k0 : Int) + k * 4)) (fun _ i => n - (intOf i).toNat)
  case atStart => exact ⟨0, by omega, rfl, by simp⟩
  case round =>
    obtain ⟨k, hk, rfl, rfl⟩ := hrel
    by_cases hlt : k < n
    · obtain ⟨g, rfl, hg, hc⟩ := HM.out.resolve_left (by omega)
      clear HM
      have c0 : w.cell? ⟨g, k * 4, none⟩ = some (.int .i64 ((k0 : Int) + k * 4)) := by have := hc (k * 4 + 0) (by omega); simpa [Int.add_assoc] using this
      have c1 : w.cell? ⟨g, k * 4 + 1, none⟩ = some (.int .i64 ((k0 : Int) + k * 4 + 1)) := by have := hc (k * 4 + 1) (by omega); simpa [Int.add_assoc] using this
      have c2 : w.cell? ⟨g, k * 4 + 2, none⟩ = some (.int .i64 ((k0 : Int) + k * 4 + 2)) := by have := hc (k * 4 + 2) (by omega); simpa [Int.add_assoc] using this
      have c3 : w.cell? ⟨g, k * 4 + 3, none⟩ = some (.int .i64 ((k0 : Int) + k * 4 + 3)) := by have := hc (k * 4 + 3) (by omega); simpa [Int.add_assoc] using this
      clear hc
      go_wp2
      go_round
      case rel => exact ⟨k + 1, by omega, by go_num, by go_num⟩
      case measure => simp [intOf]; omega
    · have hkn : k = n := by omega
      subst hkn
      go_wp2
      go_ret
      exact ⟨rfl, rfl⟩
theorem heldEntryS_at (A : Option Addr) (n cap k0 : Nat) (k : Int) (w : World) (hn : n ≤ 1048576) (hk0 : k0 ≤ 1000000000) (hM : Marked w A n 4 k0) (hk : k = (k0 : Int)) :
    Calls Tryz.prog 12 #[.slice A n cap, .int .i64 k] w fun e' w' => e' = .returned (.int .i64 (k + n * 4)) ∧ w = w' := by
  subst hk; exact heldEntryS_any A n cap k0 w hn hk0 hM

end Go.Proofs.YtlbllonpodckgaaGreatDoor
