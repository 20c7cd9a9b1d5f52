/- The helper functions of the laws for Rule: a copy, a comparison, marks. Each contract holds for every argument of the stated shape. -/
import Derived.Test.YtlbllonpodckgaaLaw
namespace Go.Proofs.Ytlbllonpodckgaa
open Go.RowKit Go.Deep Go.BigFrame

structure Rule where
  ageFrom : Int
  ageTo : Int
  yearsFrom : Int
  yearsTo : Int
  kinds : Int
  outcome : Int
def Rule.row (r : Rule) : List Value := [.int .i64 r.ageFrom, .int .i64 r.ageTo, .int .i64 r.yearsFrom, .int .i64 r.yearsTo, .int .i64 r.kinds, .int .i64 r.outcome]
def ruleRows (xs : List Rule) : List (List Value) := xs.map Rule.row
theorem ruleRows_get {xs : List Rule} {k : Nat} {x : Rule} (h : xs[k]? = some x) : (ruleRows xs)[k]? = some x.row := by simp [ruleRows, h]
theorem ruleRows_length (xs : List Rule) : (ruleRows xs).length = xs.length := by simp [ruleRows]
theorem ruleRows_all (xs : List Rule) : ∀ r ∈ ruleRows xs, r.length = 6 := by
  intro r hr; obtain ⟨x, _, rfl⟩ := List.mem_map.1 hr; rfl
theorem Rule.oneCell (x : Rule) : ∀ v ∈ x.row, v.oneCell' = true := by simp [Rule.row, Value.oneCell']
theorem Rule.info : (Try.prog.info? 58).map (fun i => (i.zero, i.size, i.bytes)) = some (some (.agg #[.int .i64 0, .int .i64 0, .int .i64 0, .int .i64 0, .int .i64 0, .int .i64 0]), 6, 48) := by kernel_rfl
theorem Rule.size : (Try.prog.info? 58).map (·.size) = some 6 := by kernel_rfl
theorem Rule.sizeL : (Try.prog.info? 60).map (·.size) = some 6 := by kernel_rfl

theorem Rule.cells {x : Rule} {w : World} {p : Addr} (hc : ∀ (j : Nat) (v : Value), x.row[j]? = some v → w.cell? (p.add j) = some v) : w.cell? p = some (.int .i64 x.ageFrom) ∧ w.cell? ⟨p.block, p.off + 1, none⟩ = some (.int .i64 x.ageTo) ∧ w.cell? ⟨p.block, p.off + 2, none⟩ = some (.int .i64 x.yearsFrom) ∧ w.cell? ⟨p.block, p.off + 3, none⟩ = some (.int .i64 x.yearsTo) ∧ w.cell? ⟨p.block, p.off + 4, none⟩ = some (.int .i64 x.kinds) ∧ w.cell? ⟨p.block, p.off + 5, none⟩ = some (.int .i64 x.outcome) := by
  refine ⟨by have := hc 0 _ rfl; rwa [Addr.add_zero'] at this, hc 1 _ rfl, hc 2 _ rfl, hc 3 _ rfl, hc 4 _ rfl, hc 5 _ rfl⟩
def Rule.fits (x : Rule) : Prop := In64 x.ageFrom ∧ In64 x.ageTo ∧ In64 x.yearsFrom ∧ In64 x.yearsTo ∧ In64 x.kinds ∧ In64 x.outcome
theorem Rule.of_nums : ∀ (rows : List (List Int)), (∀ r ∈ rows, r.length = 6 ∧ ∀ z ∈ r, In64 z) → ∃ xs : List Rule, xs.length = rows.length ∧ ruleRows xs = numRows rows ∧ ∀ x ∈ xs, x.fits
  | [], _ => ⟨[], rfl, rfl, by simp⟩
  | q :: rest, h => by
    obtain ⟨xs, hl, hr, hf⟩ := Rule.of_nums rest fun r hr => h r (by simp [hr])
    obtain ⟨hq, hz⟩ := h q (by simp)
    match q, hq with
    | [z0, z1, z2, z3, z4, z5], _ =>
      refine ⟨⟨z0, z1, z2, z3, z4, z5⟩ :: xs, by simp [hl], by rw [ruleRows, List.map_cons, numRows, List.map_cons, ← numRows, ← hr]; rfl, fun x hx => ?_⟩
      rcases List.mem_cons.1 hx with rfl | hx
      · exact ⟨hz z0 (by simp), hz z1 (by simp), hz z2 (by simp), hz z3 (by simp), hz z4 (by simp), hz z5 (by simp)⟩
      · exact hf x hx
theorem Rule.of_num {zs : List Int} (hl : zs.length = 6) (hz : ∀ z ∈ zs, In64 z) : ∃ x : Rule, (zs.map (Value.int .i64)).toArray = x.row.toArray ∧ x.fits := by
  match zs, hl with
  | [z0, z1, z2, z3, z4, z5], _ => exact ⟨⟨z0, z1, z2, z3, z4, z5⟩, rfl, hz z0 (by simp), hz z1 (by simp), hz z2 (by simp), hz z3 (by simp), hz z4 (by simp), hz z5 (by simp)⟩

theorem Rule.intCells : IntCells Try.prog 60 6 := by
  refine intCells_flat Try.underlying60 (by kernel_rfl) Try.underlying2 (by kernel_rfl) fun j hj => ?_
  rcases (by omega : j = 0 ∨ j = 1 ∨ j = 2 ∨ j = 3 ∨ j = 4 ∨ j = 5) with rfl | rfl | rfl | rfl | rfl | rfl
  all_goals exact ⟨_, rfl, rfl, rfl⟩

theorem toRule_any (x : Rule) (w : World) :
    Calls Try.prog 30 #[.agg x.row.toArray] w fun e' w' => e' = .returned (.agg x.row.toArray) ∧ Below w.heap.size w w' := by
  unfold Rule.row
  go_enter Try.func30, Try.ntmps30
  go_wp2
  refine bodyPost_ret (v := .agg x.row.toArray) (by simp [results, Try.results30, go_sem, Rule.row]) rfl ⟨rfl, ?_⟩
  exact (((Below.refl _ _).alloc (Nat.le_refl _) _).alloc (by simp) _).alloc (by simp; omega) _

theorem eqRule_any (x : Rule) (w : World) :
    Calls Try.prog 33 #[.agg x.row.toArray, .agg x.row.toArray] w fun e' w' => e' = .returned (.bool true) ∧ Below w.heap.size w w' := by
  unfold Rule.row
  go_enter Try.func33, Try.ntmps33
  go_wp2
  go_ret
  exact ⟨rfl, ((Below.refl _ _).alloc (Nat.le_refl _) _).alloc (by simp) _⟩

theorem szRuleS_yes (A : Option Addr) (n cap : Nat) (left : Int) (w : World) (h0 : (n : Int) ≤ left) (h1 : left ≤ 1048576) :
    Calls Try.prog 6 #[.slice A n cap, .int .i64 left] w fun e' w' => e' = .returned (.int .i64 (left - (n : Int))) ∧ w = w' := by
  have h2 : ¬ (left - (n : Int) < 0) := by omega
  go_enter Try.func6, Try.ntmps6
  go_wp2
  go_ret
  exact ⟨rfl, rfl⟩
theorem szRuleS_no (A : Option Addr) (n cap : Nat) (left : Int) (w : World) (hn : n ≤ 9223372036854775807) (h0 : left < (n : Int)) (h1 : 0 ≤ left) (h2' : left ≤ 1048576) :
    Calls Try.prog 6 #[.slice A n cap, .int .i64 left] w fun e' w' => e' = .returned (.int .i64 (-1)) ∧ w = w' := by
  have h2 : (left - (n : Int) < 0) := by omega
  go_enter Try.func6, Try.ntmps6
  go_wp2
  go_ret
  exact ⟨rfl, rfl⟩

set_option maxHeartbeats 400000 in
theorem toRuleS_any (A : Option Addr) (n cap : Nat) (xs : List Rule) (w : World) (hn : n ≤ 1048576) (hl : xs.length = n) (hX : Rd w w.heap.size A 6 (ruleRows xs)) :
    Calls Try.prog 8 #[.slice A n cap] w fun e' w' => ∃ g, e' = .returned (.slice (some ⟨g, 0, none⟩) n n) ∧ Res w.heap.size w' 58 6 (some ⟨g, 0, none⟩) n n (ruleRows xs) ∧ Below w.heap.size w w' := by
  obtain ⟨i0, hi0, hz0, hz1, hz2⟩ := info_parts Rule.info
  have hmk := fun W => run_make_rowN (P := Try.prog) 28 58 i0 _ Try.underlying28 hi0 hz0 .i64 .i64 n n (Nat.le_refl _) (by rw [hz2]; omega) (by omega) W
  rw [hz1] at hmk
  have HX := Lib.hid hX; clear hX
  have HL := Lib.hid hl; clear hl
  clear hi0 hz0 hz1 hz2
  go_enter Try.func8, Try.ntmps8
  go_wp2
  clear hmk
  go_loopw [4] (fun i wr => ∃ k : Nat, k ≤ n ∧ i = .int .i64 k ∧ (∃ cs, Blk wr w.heap.size 58 cs ∧ cs.size = n * 6 ∧ Filled cs 6 (ruleRows xs) k) ∧ Below w.heap.size w wr) (fun i _ => n - (intOf i).toNat)
  case atStart => exact ⟨0, by omega, rfl, ⟨_, Blk.new _ _ _, by simp [madeCells], Filled.zero⟩, (Below.refl _ _).alloc (Nat.le_refl _) _⟩
  case round =>
    obtain ⟨k, hk, rfl, ⟨cs, hcs, hsz, hcs2⟩, hb⟩ := hrel
    have Hcs2 := Lib.hid hcs2; clear hcs2
    have Hsz := Lib.hid hsz; clear hsz
    have Hcs := Lib.hid hcs; clear hcs
    by_cases hlt : k < n
    · obtain ⟨x, hx⟩ := get_of_lt (xs := xs) (k := k) (by rw [HL.out]; exact hlt)
      obtain ⟨ad, rfl, had, _, hc⟩ := (HX.out.below hb).at' (ruleRows_get hx)
      have Hc := Lib.hid hc; clear hc
      have Hx := Lib.hid hx; clear hx
      go_wp2_with (refine wpList_load_agg rfl 60 _ rfl (ad.add (k * 6)) rfl x.row Hc.out _ Try.underlying60 rfl Rule.sizeL ?_)
      refine (toRule_any x _).mono ?_
      rintro e w1 ⟨rfl, hb1⟩
      have Hcs1 := Lib.hid (Hcs.out.below' hb1)
      have hlt' : w.heap.size < w1.heap.size := Hcs1.out.lt
      have hfit : k * 6 + 6 ≤ cs.size := by rw [Hsz.out]; omega
      go_wp2_with (refine wpList_store_agg rfl 58 _ _ rfl w.heap.size (k * 6) x.row rfl rfl 58 cs Hcs1.out Rule.size hfit x.oneCell ?_)
      intro w2 hcs2 hg2 hs2
      have Hcs2' := Lib.hid hcs2; clear hcs2
      have hb2 : Below w.heap.size w w2 := ((hb.trans (hb1.mono hb.size))).trans (below_grown hg2 (by omega))
      have Hs2 := Lib.hid hs2; clear hs2
      go_wp2
      go_roundw
      case rel => exact ⟨k + 1, by omega, by go_num, ⟨_, Hcs2'.out, by rw [putAt_size (by exact hfit)]; exact Hsz.out, Hcs2.out.step (ruleRows_get Hx.out) rfl (ruleRows_all xs) hfit⟩, hb2⟩
      case measure => simp [intOf]; omega
    · have hkn : k = n := by omega
      subst hkn
      go_wp2
      go_ret
      refine ⟨w.heap.size, rfl, Filled.res Hcs.out Hcs2.out (by rw [ruleRows_length, HL.out]) Hsz.out (Nat.le_refl _) (by unfold maxLen; omega) (ruleRows_all xs), hb⟩

set_option maxHeartbeats 1000000 in
theorem eqRuleS_any (A A' : Option Addr) (n cap cap' : Nat) (xs : List Rule) (w : World) (hn : n ≤ 140737488355328) (hl : xs.length = n) (hX : Rd w w.heap.size A 6 (ruleRows xs)) (hX' : Rd w w.heap.size A' 6 (ruleRows xs)) :
    Calls Try.prog 11 #[.slice A n cap, .slice A' n cap'] w fun e' w' => e' = .returned (.bool true) ∧ Below w.heap.size w w' := by
  have HX := Lib.hid hX; clear hX
  have HX' := Lib.hid hX'; clear hX'
  have HL := Lib.hid hl; clear hl
  go_enter Try.func11, Try.ntmps11
  go_wp2
  go_loopw [5] (fun i wr => ∃ k : Nat, k ≤ n ∧ i = .int .i64 k ∧ Below w.heap.size w wr) (fun i _ => n - (intOf i).toNat)
  case atStart => exact ⟨0, by omega, rfl, Below.refl _ _⟩
  case round =>
    obtain ⟨k, hk, rfl, hb⟩ := hrel
    by_cases hlt : k < n
    · obtain ⟨x, hx⟩ := get_of_lt (xs := xs) (k := k) (by rw [HL.out]; exact hlt)
      obtain ⟨ad, rfl, had, _, hc⟩ := (HX.out.below hb).at' (ruleRows_get hx)
      obtain ⟨ad', rfl, had', _, hc'⟩ := (HX'.out.below hb).at' (ruleRows_get hx)
      clear hx
      have c0 : wr.cell? (ad.add (k * 6)) = some (.int .i64 x.ageFrom) := by have := hc 0 _ rfl; rwa [Addr.add_zero'] at this
      have c1 : wr.cell? ⟨(ad.add (k * 6)).block, (ad.add (k * 6)).off + 1, none⟩ = some (.int .i64 x.ageTo) := hc 1 _ rfl
      have c2 : wr.cell? ⟨(ad.add (k * 6)).block, (ad.add (k * 6)).off + 2, none⟩ = some (.int .i64 x.yearsFrom) := hc 2 _ rfl
      have c3 : wr.cell? ⟨(ad.add (k * 6)).block, (ad.add (k * 6)).off + 3, none⟩ = some (.int .i64 x.yearsTo) := hc 3 _ rfl
      have c4 : wr.cell? ⟨(ad.add (k * 6)).block, (ad.add (k * 6)).off + 4, none⟩ = some (.int .i64 x.kinds) := hc 4 _ rfl
      have c5 : wr.cell? ⟨(ad.add (k * 6)).block, (ad.add (k * 6)).off + 5, none⟩ = some (.int .i64 x.outcome) := hc 5 _ rfl
      have d0 : wr.cell? (ad'.add (k * 6)) = some (.int .i64 x.ageFrom) := by have := hc' 0 _ rfl; rwa [Addr.add_zero'] at this
      have d1 : wr.cell? ⟨(ad'.add (k * 6)).block, (ad'.add (k * 6)).off + 1, none⟩ = some (.int .i64 x.ageTo) := hc' 1 _ rfl
      have d2 : wr.cell? ⟨(ad'.add (k * 6)).block, (ad'.add (k * 6)).off + 2, none⟩ = some (.int .i64 x.yearsFrom) := hc' 2 _ rfl
      have d3 : wr.cell? ⟨(ad'.add (k * 6)).block, (ad'.add (k * 6)).off + 3, none⟩ = some (.int .i64 x.yearsTo) := hc' 3 _ rfl
      have d4 : wr.cell? ⟨(ad'.add (k * 6)).block, (ad'.add (k * 6)).off + 4, none⟩ = some (.int .i64 x.kinds) := hc' 4 _ rfl
      have d5 : wr.cell? ⟨(ad'.add (k * 6)).block, (ad'.add (k * 6)).off + 5, none⟩ = some (.int .i64 x.outcome) := hc' 5 _ rfl
      clear hc hc'
      have hS : ∀ w' : World, Below wr.heap.size wr w' → (Below w.heap.size w w' ∧ w'.cell? (ad.add (k * 6)) = some (.int .i64 x.ageFrom) ∧ w'.cell? ⟨(ad.add (k * 6)).block, (ad.add (k * 6)).off + 1, none⟩ = some (.int .i64 x.ageTo) ∧ w'.cell? ⟨(ad.add (k * 6)).block, (ad.add (k * 6)).off + 2, none⟩ = some (.int .i64 x.yearsFrom) ∧ w'.cell? ⟨(ad.add (k * 6)).block, (ad.add (k * 6)).off + 3, none⟩ = some (.int .i64 x.yearsTo) ∧ w'.cell? ⟨(ad.add (k * 6)).block, (ad.add (k * 6)).off + 4, none⟩ = some (.int .i64 x.kinds) ∧ w'.cell? ⟨(ad.add (k * 6)).block, (ad.add (k * 6)).off + 5, none⟩ = some (.int .i64 x.outcome) ∧ w'.cell? (ad'.add (k * 6)) = some (.int .i64 x.ageFrom) ∧ w'.cell? ⟨(ad'.add (k * 6)).block, (ad'.add (k * 6)).off + 1, none⟩ = some (.int .i64 x.ageTo) ∧ w'.cell? ⟨(ad'.add (k * 6)).block, (ad'.add (k * 6)).off + 2, none⟩ = some (.int .i64 x.yearsFrom) ∧ w'.cell? ⟨(ad'.add (k * 6)).block, (ad'.add (k * 6)).off + 3, none⟩ = some (.int .i64 x.yearsTo) ∧ w'.cell? ⟨(ad'.add (k * 6)).block, (ad'.add (k * 6)).off + 4, none⟩ = some (.int .i64 x.kinds) ∧ w'.cell? ⟨(ad'.add (k * 6)).block, (ad'.add (k * 6)).off + 5, none⟩ = some (.int .i64 x.outcome)) :=
        fun w' h => ⟨hb.trans (h.mono hb.size), (h.cell (by show (ad.add (k * 6)).block < _; rw [block_of_add]; have := hb.size; omega)).trans c0, (h.cell (by show (ad.add (k * 6)).block < _; rw [block_of_add]; have := hb.size; omega)).trans c1, (h.cell (by show (ad.add (k * 6)).block < _; rw [block_of_add]; have := hb.size; omega)).trans c2, (h.cell (by show (ad.add (k * 6)).block < _; rw [block_of_add]; have := hb.size; omega)).trans c3, (h.cell (by show (ad.add (k * 6)).block < _; rw [block_of_add]; have := hb.size; omega)).trans c4, (h.cell (by show (ad.add (k * 6)).block < _; rw [block_of_add]; have := hb.size; omega)).trans c5, (h.cell (by show (ad'.add (k * 6)).block < _; rw [block_of_add]; have := hb.size; omega)).trans d0, (h.cell (by show (ad'.add (k * 6)).block < _; rw [block_of_add]; have := hb.size; omega)).trans d1, (h.cell (by show (ad'.add (k * 6)).block < _; rw [block_of_add]; have := hb.size; omega)).trans d2, (h.cell (by show (ad'.add (k * 6)).block < _; rw [block_of_add]; have := hb.size; omega)).trans d3, (h.cell (by show (ad'.add (k * 6)).block < _; rw [block_of_add]; have := hb.size; omega)).trans d4, (h.cell (by show (ad'.add (k * 6)).block < _; rw [block_of_add]; have := hb.size; omega)).trans d5⟩
      have HS := Lib.hid hS; clear hS
      clear c0 c1 c2 c3 c4 c5 d0 d1 d2 d3 d4 d5
      go_wp2
      go_region_held3 (fun w' => Below w.heap.size w w' ∧ w'.cell? (ad.add (k * 6)) = some (.int .i64 x.ageFrom) ∧ w'.cell? ⟨(ad.add (k * 6)).block, (ad.add (k * 6)).off + 1, none⟩ = some (.int .i64 x.ageTo) ∧ w'.cell? ⟨(ad.add (k * 6)).block, (ad.add (k * 6)).off + 2, none⟩ = some (.int .i64 x.yearsFrom) ∧ w'.cell? ⟨(ad.add (k * 6)).block, (ad.add (k * 6)).off + 3, none⟩ = some (.int .i64 x.yearsTo) ∧ w'.cell? ⟨(ad.add (k * 6)).block, (ad.add (k * 6)).off + 4, none⟩ = some (.int .i64 x.kinds) ∧ w'.cell? ⟨(ad.add (k * 6)).block, (ad.add (k * 6)).off + 5, none⟩ = some (.int .i64 x.outcome) ∧ w'.cell? (ad'.add (k * 6)) = some (.int .i64 x.ageFrom) ∧ w'.cell? ⟨(ad'.add (k * 6)).block, (ad'.add (k * 6)).off + 1, none⟩ = some (.int .i64 x.ageTo) ∧ w'.cell? ⟨(ad'.add (k * 6)).block, (ad'.add (k * 6)).off + 2, none⟩ = some (.int .i64 x.yearsFrom) ∧ w'.cell? ⟨(ad'.add (k * 6)).block, (ad'.add (k * 6)).off + 3, none⟩ = some (.int .i64 x.yearsTo) ∧ w'.cell? ⟨(ad'.add (k * 6)).block, (ad'.add (k * 6)).off + 4, none⟩ = some (.int .i64 x.kinds) ∧ w'.cell? ⟨(ad'.add (k * 6)).block, (ad'.add (k * 6)).off + 5, none⟩ = some (.int .i64 x.outcome))
        (first | exact HS.out _ (of_drew hb1) | exact HS.out _ (Below.drew (Below.refl _ _))) ((go_at_call 33; refine (eqRule_any x _).mono ?_; rintro e1 w1 ⟨rfl, hb1⟩))
      have hb2 : Below w.heap.size w w1 := hb.trans ((of_drew hb1).mono hb.size)
      go_wp2
      go_roundw
      case rel => exact ⟨k + 1, by omega, by go_num, hb2⟩
      case measure => simp [intOf]; omega
    · go_wp2
      go_ret
      exact ⟨rfl, hb⟩



end Go.Proofs.Ytlbllonpodckgaa
