/- Parts of a proof, one after another: Lv2, Lv4. No condition. -/
import Derived.Test.YtbjdbpdgacfcpaaK16
/- What leaving gives: the program (printed by lv.py). -/
section
namespace Go.Proofs.Ytbjdbpdgacfcpaa
open Go.RowKit Go.BigFrame

set_option maxRecDepth 20000 in
set_option maxHeartbeats 8000000 in
theorem impl_SurrenderValue_any (b : Bas) (A : Option Addr) (n cap : Nat) (p : Policy) (k : Int) (w : World) (hB : BasT w A n cap b) (hp : p.fits) (hk : In64 k) :
    Calls Try.prog 35 #[.agg #[.int .i64 b.first, .slice A n cap, .int .i64 b.rate], .agg p.row.toArray, .int .i64 k] w fun e w' => e = .returned (.tuple #[.int .i64 (surP b p k).1, .int .i64 (surP b p k).2]) ∧ Below w.heap.size w w' := by
  unfold Policy.row
  have HB := Lib.hid (Below.refl w.heap.size w)
  have HH := Lib.hid (Held.nil w)
  have HT := Lib.hid hB; clear hB
  obtain ⟨hb, hr0, hr1⟩ := box2 (w := w) (tx := 28) (ty := 35) (X := [.int .i64 b.first, .slice A n cap, .int .i64 b.rate]) (Y := [.int .i64 p.kind, .int .i64 p.age, .int .i64 p.years, .int .i64 p.sum, .int .i64 p.load])
  replace HB := Lib.hid (below_all HB.out hb)
  replace HT := Lib.hid (HT.out.past hb)
  replace HH := Lib.hid (((HH.out.past hb).cons hr0).cons hr1)
  clear hb hr0 hr1
  by_cases h0 : leavCode b p k = 0
  · skip
    have Q := Lib.hid (show surP b p k = (valV b p k, 0) by unfold surP; rw [if_pos h0])
    have HY := Lib.hid (year_ok (leav_ok h0).1)
    obtain ⟨⟨r0, r1⟩, v0, v1⟩ := val_bound HY.out
    have hpo := part_ok HY.out (net_bound HY.out.toPolOk)
    have t0 := hpo.t0; have t1 := hpo.t1; have t2 := hpo.d0; have t3 := hpo.d1; have s1 := hpo.s1; have s0 := HY.out.sum0
    clear hpo
    have H0 := Lib.hid h0; clear h0
    go_enter Try.func35, Try.ntmps35
    have HL_bx := Lib.hid (Rd.box (HH.out.get 1 rfl))
    have HL_px := Lib.hid (Rd.box (HH.out.get 0 rfl))
    go_wp2_with (first | (refine wpList_load_agg rfl 28 _ rfl ⟨w.heap.size, 0, none⟩ rfl [.int .i64 b.first, .slice A n cap, .int .i64 b.rate] HL_bx.out _ Try.underlying28 rfl Bas.size ?_) | (refine wpList_load_agg rfl 35 _ rfl ⟨w.heap.size + 1, 0, none⟩ rfl [.int .i64 p.kind, .int .i64 p.age, .int .i64 p.years, .int .i64 p.sum, .int .i64 p.load] HL_px.out _ Try.underlying35 rfl Policy.size ?_))
    clear HL_bx HL_px
    generalize ((w.alloc (.cells #[.int .i64 b.first, .slice A n cap, .int .i64 b.rate] 28)).alloc (.cells #[.int .i64 p.kind, .int .i64 p.age, .int .i64 p.years, .int .i64 p.sum, .int .i64 p.load] 35)) = v0 at HB HH HT ⊢
    generalize w.heap.size + 1 = g0_1 at HH ⊢
    generalize w.heap.size = g0_0 at HH ⊢
    refine (impl_checkLeaving_ok b A n cap p k _ HT.out hp hk H0.out).mono ?_
    rintro e w1 ⟨rfl, hb⟩
    replace HB := Lib.hid (below_all HB.out hb)
    replace HT := Lib.hid (HT.out.past hb)
    replace HH := Lib.hid (HH.out.past hb)
    clear hb
    obtain ⟨hb, hr0⟩ := box1 (w := w1) (tx := 95) (X := [.int .i64 (partT b p k), .int .i64 (partB b p k), .int .i64 (partD b p k), .int .i64 (resAt b p k), .int .i64 (valV b p k)])
    replace HB := Lib.hid (below_all HB.out hb)
    replace HT := Lib.hid (HT.out.past hb)
    replace HH := Lib.hid ((HH.out.past hb).cons hr0)
    clear hb hr0
    go_upto_region 2 with fail
    generalize (w1.alloc (.cells #[.int .i64 (partT b p k), .int .i64 (partB b p k), .int .i64 (partD b p k), .int .i64 (resAt b p k), .int .i64 (valV b p k)] 95)) = v1 at HB HH HT ⊢
    generalize w1.heap.size = g1_0 at HH ⊢
    have p0 : v1.cell? ⟨g1_0, 0, none⟩ = some (.int .i64 (partT b p k)) := Rd.bcell (HH.out.get 0 rfl) 0 rfl
    have p1 : v1.cell? ⟨g1_0, 1, none⟩ = some (.int .i64 (partB b p k)) := Rd.bcell (HH.out.get 0 rfl) 1 rfl
    have p2 : v1.cell? ⟨g1_0, 2, none⟩ = some (.int .i64 (partD b p k)) := Rd.bcell (HH.out.get 0 rfl) 2 rfl
    have p3 : v1.cell? ⟨g1_0, 3, none⟩ = some (.int .i64 (resAt b p k)) := Rd.bcell (HH.out.get 0 rfl) 3 rfl
    have p4 : v1.cell? ⟨g1_0, 4, none⟩ = some (.int .i64 (valV b p k)) := Rd.bcell (HH.out.get 0 rfl) 4 rfl
    go_wp2
    go_ret2
    exact ⟨by rw [Q.out]; rfl, HB.out⟩
  · skip
    have Q := Lib.hid (show surP b p k = (0, leavCode b p k) by unfold surP; rw [if_neg h0])
    have hz : (leavCode b p k != 0) = true := by simpa [bne] using h0
    go_enter Try.func35, Try.ntmps35
    have HL_bx := Lib.hid (Rd.box (HH.out.get 1 rfl))
    have HL_px := Lib.hid (Rd.box (HH.out.get 0 rfl))
    go_wp2_with (first | (refine wpList_load_agg rfl 28 _ rfl ⟨w.heap.size, 0, none⟩ rfl [.int .i64 b.first, .slice A n cap, .int .i64 b.rate] HL_bx.out _ Try.underlying28 rfl Bas.size ?_) | (refine wpList_load_agg rfl 35 _ rfl ⟨w.heap.size + 1, 0, none⟩ rfl [.int .i64 p.kind, .int .i64 p.age, .int .i64 p.years, .int .i64 p.sum, .int .i64 p.load] HL_px.out _ Try.underlying35 rfl Policy.size ?_))
    clear HL_bx HL_px
    generalize ((w.alloc (.cells #[.int .i64 b.first, .slice A n cap, .int .i64 b.rate] 28)).alloc (.cells #[.int .i64 p.kind, .int .i64 p.age, .int .i64 p.years, .int .i64 p.sum, .int .i64 p.load] 35)) = v0 at HB HH HT ⊢
    generalize w.heap.size + 1 = g0_1 at HH ⊢
    generalize w.heap.size = g0_0 at HH ⊢
    refine (impl_checkLeaving_no b A n cap p k _ HT.out hp hk h0).mono ?_
    rintro e w1 ⟨rfl, hb⟩
    replace HB := Lib.hid (below_all HB.out hb)
    replace HT := Lib.hid (HT.out.past hb)
    replace HH := Lib.hid (HH.out.past hb)
    clear hb
    obtain ⟨hb, hr0⟩ := box1 (w := w1) (tx := 95) (X := [.int .i64 0, .int .i64 0, .int .i64 0, .int .i64 0, .int .i64 0])
    replace HB := Lib.hid (below_all HB.out hb)
    replace HT := Lib.hid (HT.out.past hb)
    replace HH := Lib.hid ((HH.out.past hb).cons hr0)
    clear hb hr0
    clear h0
    generalize hc : leavCode b p k = c at hz Q ⊢
    clear hc
    have hcc : (c == 0) = false := by simpa [bne] using hz
    go_upto_region 2 with fail
    generalize (w1.alloc (.cells #[.int .i64 0, .int .i64 0, .int .i64 0, .int .i64 0, .int .i64 0] 95)) = v1 at HB HH HT ⊢
    generalize w1.heap.size = g1_0 at HH ⊢
    have p0 : v1.cell? ⟨g1_0, 0, none⟩ = some (.int .i64 0) := Rd.bcell (HH.out.get 0 rfl) 0 rfl
    have p1 : v1.cell? ⟨g1_0, 1, none⟩ = some (.int .i64 0) := Rd.bcell (HH.out.get 0 rfl) 1 rfl
    have p2 : v1.cell? ⟨g1_0, 2, none⟩ = some (.int .i64 0) := Rd.bcell (HH.out.get 0 rfl) 2 rfl
    have p3 : v1.cell? ⟨g1_0, 3, none⟩ = some (.int .i64 0) := Rd.bcell (HH.out.get 0 rfl) 3 rfl
    have p4 : v1.cell? ⟨g1_0, 4, none⟩ = some (.int .i64 0) := Rd.bcell (HH.out.get 0 rfl) 4 rfl
    go_wp2
    go_ret2
    exact ⟨by rw [Q.out]; rfl, HB.out⟩
set_option maxRecDepth 20000 in
set_option maxHeartbeats 8000000 in
theorem impl_LeavingLoss_any (b : Bas) (A : Option Addr) (n cap : Nat) (p : Policy) (k : Int) (w : World) (hB : BasT w A n cap b) (hp : p.fits) (hk : In64 k) :
    Calls Try.prog 37 #[.agg #[.int .i64 b.first, .slice A n cap, .int .i64 b.rate], .agg p.row.toArray, .int .i64 k] w fun e w' => e = .returned (.tuple #[.int .i64 (lossP b p k).1, .int .i64 (lossP b p k).2]) ∧ Below w.heap.size w w' := by
  unfold Policy.row
  have HB := Lib.hid (Below.refl w.heap.size w)
  have HH := Lib.hid (Held.nil w)
  have HT := Lib.hid hB; clear hB
  obtain ⟨hb, hr0, hr1⟩ := box2 (w := w) (tx := 28) (ty := 35) (X := [.int .i64 b.first, .slice A n cap, .int .i64 b.rate]) (Y := [.int .i64 p.kind, .int .i64 p.age, .int .i64 p.years, .int .i64 p.sum, .int .i64 p.load])
  replace HB := Lib.hid (below_all HB.out hb)
  replace HT := Lib.hid (HT.out.past hb)
  replace HH := Lib.hid (((HH.out.past hb).cons hr0).cons hr1)
  clear hb hr0 hr1
  by_cases h0 : leavCode b p k = 0
  · skip
    have Q := Lib.hid (show lossP b p k = (resAt b p k - valV b p k, 0) by unfold lossP; rw [if_pos h0])
    have HY := Lib.hid (year_ok (leav_ok h0).1)
    obtain ⟨⟨r0, r1⟩, v0, v1⟩ := val_bound HY.out
    have hpo := part_ok HY.out (net_bound HY.out.toPolOk)
    have t0 := hpo.t0; have t1 := hpo.t1; have t2 := hpo.d0; have t3 := hpo.d1; have s1 := hpo.s1; have s0 := HY.out.sum0
    clear hpo
    have H0 := Lib.hid h0; clear h0
    go_enter Try.func37, Try.ntmps37
    have HL_bx := Lib.hid (Rd.box (HH.out.get 1 rfl))
    have HL_px := Lib.hid (Rd.box (HH.out.get 0 rfl))
    go_wp2_with (first | (refine wpList_load_agg rfl 28 _ rfl ⟨w.heap.size, 0, none⟩ rfl [.int .i64 b.first, .slice A n cap, .int .i64 b.rate] HL_bx.out _ Try.underlying28 rfl Bas.size ?_) | (refine wpList_load_agg rfl 35 _ rfl ⟨w.heap.size + 1, 0, none⟩ rfl [.int .i64 p.kind, .int .i64 p.age, .int .i64 p.years, .int .i64 p.sum, .int .i64 p.load] HL_px.out _ Try.underlying35 rfl Policy.size ?_))
    clear HL_bx HL_px
    generalize ((w.alloc (.cells #[.int .i64 b.first, .slice A n cap, .int .i64 b.rate] 28)).alloc (.cells #[.int .i64 p.kind, .int .i64 p.age, .int .i64 p.years, .int .i64 p.sum, .int .i64 p.load] 35)) = v0 at HB HH HT ⊢
    generalize w.heap.size + 1 = g0_1 at HH ⊢
    generalize w.heap.size = g0_0 at HH ⊢
    refine (impl_checkLeaving_ok b A n cap p k _ HT.out hp hk H0.out).mono ?_
    rintro e w1 ⟨rfl, hb⟩
    replace HB := Lib.hid (below_all HB.out hb)
    replace HT := Lib.hid (HT.out.past hb)
    replace HH := Lib.hid (HH.out.past hb)
    clear hb
    obtain ⟨hb, hr0⟩ := box1 (w := w1) (tx := 95) (X := [.int .i64 (partT b p k), .int .i64 (partB b p k), .int .i64 (partD b p k), .int .i64 (resAt b p k), .int .i64 (valV b p k)])
    replace HB := Lib.hid (below_all HB.out hb)
    replace HT := Lib.hid (HT.out.past hb)
    replace HH := Lib.hid ((HH.out.past hb).cons hr0)
    clear hb hr0
    go_upto_region 2 with fail
    generalize (w1.alloc (.cells #[.int .i64 (partT b p k), .int .i64 (partB b p k), .int .i64 (partD b p k), .int .i64 (resAt b p k), .int .i64 (valV b p k)] 95)) = v1 at HB HH HT ⊢
    generalize w1.heap.size = g1_0 at HH ⊢
    have p0 : v1.cell? ⟨g1_0, 0, none⟩ = some (.int .i64 (partT b p k)) := Rd.bcell (HH.out.get 0 rfl) 0 rfl
    have p1 : v1.cell? ⟨g1_0, 1, none⟩ = some (.int .i64 (partB b p k)) := Rd.bcell (HH.out.get 0 rfl) 1 rfl
    have p2 : v1.cell? ⟨g1_0, 2, none⟩ = some (.int .i64 (partD b p k)) := Rd.bcell (HH.out.get 0 rfl) 2 rfl
    have p3 : v1.cell? ⟨g1_0, 3, none⟩ = some (.int .i64 (resAt b p k)) := Rd.bcell (HH.out.get 0 rfl) 3 rfl
    have p4 : v1.cell? ⟨g1_0, 4, none⟩ = some (.int .i64 (valV b p k)) := Rd.bcell (HH.out.get 0 rfl) 4 rfl
    go_wp2
    go_ret2
    exact ⟨by rw [Q.out]; rfl, HB.out⟩
  · skip
    have Q := Lib.hid (show lossP b p k = (0, leavCode b p k) by unfold lossP; rw [if_neg h0])
    have hz : (leavCode b p k != 0) = true := by simpa [bne] using h0
    go_enter Try.func37, Try.ntmps37
    have HL_bx := Lib.hid (Rd.box (HH.out.get 1 rfl))
    have HL_px := Lib.hid (Rd.box (HH.out.get 0 rfl))
    go_wp2_with (first | (refine wpList_load_agg rfl 28 _ rfl ⟨w.heap.size, 0, none⟩ rfl [.int .i64 b.first, .slice A n cap, .int .i64 b.rate] HL_bx.out _ Try.underlying28 rfl Bas.size ?_) | (refine wpList_load_agg rfl 35 _ rfl ⟨w.heap.size + 1, 0, none⟩ rfl [.int .i64 p.kind, .int .i64 p.age, .int .i64 p.years, .int .i64 p.sum, .int .i64 p.load] HL_px.out _ Try.underlying35 rfl Policy.size ?_))
    clear HL_bx HL_px
    generalize ((w.alloc (.cells #[.int .i64 b.first, .slice A n cap, .int .i64 b.rate] 28)).alloc (.cells #[.int .i64 p.kind, .int .i64 p.age, .int .i64 p.years, .int .i64 p.sum, .int .i64 p.load] 35)) = v0 at HB HH HT ⊢
    generalize w.heap.size + 1 = g0_1 at HH ⊢
    generalize w.heap.size = g0_0 at HH ⊢
    refine (impl_checkLeaving_no b A n cap p k _ HT.out hp hk h0).mono ?_
    rintro e w1 ⟨rfl, hb⟩
    replace HB := Lib.hid (below_all HB.out hb)
    replace HT := Lib.hid (HT.out.past hb)
    replace HH := Lib.hid (HH.out.past hb)
    clear hb
    obtain ⟨hb, hr0⟩ := box1 (w := w1) (tx := 95) (X := [.int .i64 0, .int .i64 0, .int .i64 0, .int .i64 0, .int .i64 0])
    replace HB := Lib.hid (below_all HB.out hb)
    replace HT := Lib.hid (HT.out.past hb)
    replace HH := Lib.hid ((HH.out.past hb).cons hr0)
    clear hb hr0
    clear h0
    generalize hc : leavCode b p k = c at hz Q ⊢
    clear hc
    have hcc : (c == 0) = false := by simpa [bne] using hz
    go_upto_region 2 with fail
    generalize (w1.alloc (.cells #[.int .i64 0, .int .i64 0, .int .i64 0, .int .i64 0, .int .i64 0] 95)) = v1 at HB HH HT ⊢
    generalize w1.heap.size = g1_0 at HH ⊢
    have p0 : v1.cell? ⟨g1_0, 0, none⟩ = some (.int .i64 0) := Rd.bcell (HH.out.get 0 rfl) 0 rfl
    have p1 : v1.cell? ⟨g1_0, 1, none⟩ = some (.int .i64 0) := Rd.bcell (HH.out.get 0 rfl) 1 rfl
    have p2 : v1.cell? ⟨g1_0, 2, none⟩ = some (.int .i64 0) := Rd.bcell (HH.out.get 0 rfl) 2 rfl
    have p3 : v1.cell? ⟨g1_0, 3, none⟩ = some (.int .i64 0) := Rd.bcell (HH.out.get 0 rfl) 3 rfl
    have p4 : v1.cell? ⟨g1_0, 4, none⟩ = some (.int .i64 0) := Rd.bcell (HH.out.get 0 rfl) 4 rfl
    go_wp2
    go_ret2
    exact ⟨by rw [Q.out]; rfl, HB.out⟩
set_option maxRecDepth 20000 in
set_option maxHeartbeats 8000000 in
theorem impl_LoanLimit_any (b : Bas) (A : Option Addr) (n cap : Nat) (p : Policy) (k : Int) (w : World) (hB : BasT w A n cap b) (hp : p.fits) (hk : In64 k) :
    Calls Try.prog 39 #[.agg #[.int .i64 b.first, .slice A n cap, .int .i64 b.rate], .agg p.row.toArray, .int .i64 k] w fun e w' => e = .returned (.tuple #[.int .i64 (loanP b p k).1, .int .i64 (loanP b p k).2]) ∧ Below w.heap.size w w' := by
  unfold Policy.row
  have HB := Lib.hid (Below.refl w.heap.size w)
  have HH := Lib.hid (Held.nil w)
  have HT := Lib.hid hB; clear hB
  obtain ⟨hb, hr0, hr1⟩ := box2 (w := w) (tx := 28) (ty := 35) (X := [.int .i64 b.first, .slice A n cap, .int .i64 b.rate]) (Y := [.int .i64 p.kind, .int .i64 p.age, .int .i64 p.years, .int .i64 p.sum, .int .i64 p.load])
  replace HB := Lib.hid (below_all HB.out hb)
  replace HT := Lib.hid (HT.out.past hb)
  replace HH := Lib.hid (((HH.out.past hb).cons hr0).cons hr1)
  clear hb hr0 hr1
  by_cases h0 : leavCode b p k = 0
  · skip
    have Q := Lib.hid (show loanP b p k = (valV b p k * 800 / 1000, 0) by unfold loanP; rw [if_pos h0])
    have HY := Lib.hid (year_ok (leav_ok h0).1)
    obtain ⟨⟨r0, r1⟩, v0, v1⟩ := val_bound HY.out
    have hpo := part_ok HY.out (net_bound HY.out.toPolOk)
    have t0 := hpo.t0; have t1 := hpo.t1; have t2 := hpo.d0; have t3 := hpo.d1; have s1 := hpo.s1; have s0 := HY.out.sum0
    clear hpo
    have H0 := Lib.hid h0; clear h0
    go_enter Try.func39, Try.ntmps39
    have HL_bx := Lib.hid (Rd.box (HH.out.get 1 rfl))
    have HL_px := Lib.hid (Rd.box (HH.out.get 0 rfl))
    go_wp2_with (first | (refine wpList_load_agg rfl 28 _ rfl ⟨w.heap.size, 0, none⟩ rfl [.int .i64 b.first, .slice A n cap, .int .i64 b.rate] HL_bx.out _ Try.underlying28 rfl Bas.size ?_) | (refine wpList_load_agg rfl 35 _ rfl ⟨w.heap.size + 1, 0, none⟩ rfl [.int .i64 p.kind, .int .i64 p.age, .int .i64 p.years, .int .i64 p.sum, .int .i64 p.load] HL_px.out _ Try.underlying35 rfl Policy.size ?_))
    clear HL_bx HL_px
    generalize ((w.alloc (.cells #[.int .i64 b.first, .slice A n cap, .int .i64 b.rate] 28)).alloc (.cells #[.int .i64 p.kind, .int .i64 p.age, .int .i64 p.years, .int .i64 p.sum, .int .i64 p.load] 35)) = v0 at HB HH HT ⊢
    generalize w.heap.size + 1 = g0_1 at HH ⊢
    generalize w.heap.size = g0_0 at HH ⊢
    refine (impl_checkLeaving_ok b A n cap p k _ HT.out hp hk H0.out).mono ?_
    rintro e w1 ⟨rfl, hb⟩
    replace HB := Lib.hid (below_all HB.out hb)
    replace HT := Lib.hid (HT.out.past hb)
    replace HH := Lib.hid (HH.out.past hb)
    clear hb
    obtain ⟨hb, hr0⟩ := box1 (w := w1) (tx := 95) (X := [.int .i64 (partT b p k), .int .i64 (partB b p k), .int .i64 (partD b p k), .int .i64 (resAt b p k), .int .i64 (valV b p k)])
    replace HB := Lib.hid (below_all HB.out hb)
    replace HT := Lib.hid (HT.out.past hb)
    replace HH := Lib.hid ((HH.out.past hb).cons hr0)
    clear hb hr0
    go_upto_region 2 with fail
    generalize (w1.alloc (.cells #[.int .i64 (partT b p k), .int .i64 (partB b p k), .int .i64 (partD b p k), .int .i64 (resAt b p k), .int .i64 (valV b p k)] 95)) = v1 at HB HH HT ⊢
    generalize w1.heap.size = g1_0 at HH ⊢
    have p0 : v1.cell? ⟨g1_0, 0, none⟩ = some (.int .i64 (partT b p k)) := Rd.bcell (HH.out.get 0 rfl) 0 rfl
    have p1 : v1.cell? ⟨g1_0, 1, none⟩ = some (.int .i64 (partB b p k)) := Rd.bcell (HH.out.get 0 rfl) 1 rfl
    have p2 : v1.cell? ⟨g1_0, 2, none⟩ = some (.int .i64 (partD b p k)) := Rd.bcell (HH.out.get 0 rfl) 2 rfl
    have p3 : v1.cell? ⟨g1_0, 3, none⟩ = some (.int .i64 (resAt b p k)) := Rd.bcell (HH.out.get 0 rfl) 3 rfl
    have p4 : v1.cell? ⟨g1_0, 4, none⟩ = some (.int .i64 (valV b p k)) := Rd.bcell (HH.out.get 0 rfl) 4 rfl
    go_wp2_with (go_at_call 93; refine (impl_perMille_any (valV b p k) 800 ⟨by omega, by omega⟩ _).mono ?_; rintro e w' ⟨rfl, rfl⟩)
    go_ret2
    exact ⟨by rw [Q.out]; rfl, HB.out⟩
  · skip
    have Q := Lib.hid (show loanP b p k = (0, leavCode b p k) by unfold loanP; rw [if_neg h0])
    have hz : (leavCode b p k != 0) = true := by simpa [bne] using h0
    go_enter Try.func39, Try.ntmps39
    have HL_bx := Lib.hid (Rd.box (HH.out.get 1 rfl))
    have HL_px := Lib.hid (Rd.box (HH.out.get 0 rfl))
    go_wp2_with (first | (refine wpList_load_agg rfl 28 _ rfl ⟨w.heap.size, 0, none⟩ rfl [.int .i64 b.first, .slice A n cap, .int .i64 b.rate] HL_bx.out _ Try.underlying28 rfl Bas.size ?_) | (refine wpList_load_agg rfl 35 _ rfl ⟨w.heap.size + 1, 0, none⟩ rfl [.int .i64 p.kind, .int .i64 p.age, .int .i64 p.years, .int .i64 p.sum, .int .i64 p.load] HL_px.out _ Try.underlying35 rfl Policy.size ?_))
    clear HL_bx HL_px
    generalize ((w.alloc (.cells #[.int .i64 b.first, .slice A n cap, .int .i64 b.rate] 28)).alloc (.cells #[.int .i64 p.kind, .int .i64 p.age, .int .i64 p.years, .int .i64 p.sum, .int .i64 p.load] 35)) = v0 at HB HH HT ⊢
    generalize w.heap.size + 1 = g0_1 at HH ⊢
    generalize w.heap.size = g0_0 at HH ⊢
    refine (impl_checkLeaving_no b A n cap p k _ HT.out hp hk h0).mono ?_
    rintro e w1 ⟨rfl, hb⟩
    replace HB := Lib.hid (below_all HB.out hb)
    replace HT := Lib.hid (HT.out.past hb)
    replace HH := Lib.hid (HH.out.past hb)
    clear hb
    obtain ⟨hb, hr0⟩ := box1 (w := w1) (tx := 95) (X := [.int .i64 0, .int .i64 0, .int .i64 0, .int .i64 0, .int .i64 0])
    replace HB := Lib.hid (below_all HB.out hb)
    replace HT := Lib.hid (HT.out.past hb)
    replace HH := Lib.hid ((HH.out.past hb).cons hr0)
    clear hb hr0
    clear h0
    generalize hc : leavCode b p k = c at hz Q ⊢
    clear hc
    have hcc : (c == 0) = false := by simpa [bne] using hz
    go_upto_region 2 with fail
    generalize (w1.alloc (.cells #[.int .i64 0, .int .i64 0, .int .i64 0, .int .i64 0, .int .i64 0] 95)) = v1 at HB HH HT ⊢
    generalize w1.heap.size = g1_0 at HH ⊢
    have p0 : v1.cell? ⟨g1_0, 0, none⟩ = some (.int .i64 0) := Rd.bcell (HH.out.get 0 rfl) 0 rfl
    have p1 : v1.cell? ⟨g1_0, 1, none⟩ = some (.int .i64 0) := Rd.bcell (HH.out.get 0 rfl) 1 rfl
    have p2 : v1.cell? ⟨g1_0, 2, none⟩ = some (.int .i64 0) := Rd.bcell (HH.out.get 0 rfl) 2 rfl
    have p3 : v1.cell? ⟨g1_0, 3, none⟩ = some (.int .i64 0) := Rd.bcell (HH.out.get 0 rfl) 3 rfl
    have p4 : v1.cell? ⟨g1_0, 4, none⟩ = some (.int .i64 0) := Rd.bcell (HH.out.get 0 rfl) 4 rfl
    go_wp2
    go_ret2
    exact ⟨by rw [Q.out]; rfl, HB.out⟩
set_option maxRecDepth 20000 in
set_option maxHeartbeats 8000000 in
theorem impl_PaidUpSum_any (b : Bas) (A : Option Addr) (n cap : Nat) (p : Policy) (k : Int) (w : World) (hB : BasT w A n cap b) (hp : p.fits) (hk : In64 k) :
    Calls Try.prog 33 #[.agg #[.int .i64 b.first, .slice A n cap, .int .i64 b.rate], .agg p.row.toArray, .int .i64 k] w fun e w' => e = .returned (.tuple #[.int .i64 (paidUpP b p k).1, .int .i64 (paidUpP b p k).2]) ∧ Below w.heap.size w w' := by
  unfold Policy.row
  have HB := Lib.hid (Below.refl w.heap.size w)
  have HH := Lib.hid (Held.nil w)
  have HT := Lib.hid hB; clear hB
  obtain ⟨hb, hr0, hr1⟩ := box2 (w := w) (tx := 28) (ty := 35) (X := [.int .i64 b.first, .slice A n cap, .int .i64 b.rate]) (Y := [.int .i64 p.kind, .int .i64 p.age, .int .i64 p.years, .int .i64 p.sum, .int .i64 p.load])
  replace HB := Lib.hid (below_all HB.out hb)
  replace HT := Lib.hid (HT.out.past hb)
  replace HH := Lib.hid (((HH.out.past hb).cons hr0).cons hr1)
  clear hb hr0 hr1
  by_cases h0 : leavCode b p k = 0
  · skip
    have Q := Lib.hid (show paidUpP b p k = (puQ p.sum (valV b p k) (partD b p k) (partT b p k), 0) by unfold paidUpP; rw [if_pos h0])
    have HY := Lib.hid (year_ok (leav_ok h0).1)
    obtain ⟨⟨r0, r1⟩, v0, v1⟩ := val_bound HY.out
    have hpo := part_ok HY.out (net_bound HY.out.toPolOk)
    have t0 := hpo.t0; have t1 := hpo.t1; have t2 := hpo.d0; have t3 := hpo.d1; have s1 := hpo.s1; have s0 := HY.out.sum0
    clear hpo
    have H0 := Lib.hid h0; clear h0
    go_enter Try.func33, Try.ntmps33
    have HL_bx := Lib.hid (Rd.box (HH.out.get 1 rfl))
    have HL_px := Lib.hid (Rd.box (HH.out.get 0 rfl))
    go_wp2_with (first | (refine wpList_load_agg rfl 28 _ rfl ⟨w.heap.size, 0, none⟩ rfl [.int .i64 b.first, .slice A n cap, .int .i64 b.rate] HL_bx.out _ Try.underlying28 rfl Bas.size ?_) | (refine wpList_load_agg rfl 35 _ rfl ⟨w.heap.size + 1, 0, none⟩ rfl [.int .i64 p.kind, .int .i64 p.age, .int .i64 p.years, .int .i64 p.sum, .int .i64 p.load] HL_px.out _ Try.underlying35 rfl Policy.size ?_))
    clear HL_bx HL_px
    generalize ((w.alloc (.cells #[.int .i64 b.first, .slice A n cap, .int .i64 b.rate] 28)).alloc (.cells #[.int .i64 p.kind, .int .i64 p.age, .int .i64 p.years, .int .i64 p.sum, .int .i64 p.load] 35)) = v0 at HB HH HT ⊢
    generalize w.heap.size + 1 = g0_1 at HH ⊢
    generalize w.heap.size = g0_0 at HH ⊢
    refine (impl_checkLeaving_ok b A n cap p k _ HT.out hp hk H0.out).mono ?_
    rintro e w1 ⟨rfl, hb⟩
    replace HB := Lib.hid (below_all HB.out hb)
    replace HT := Lib.hid (HT.out.past hb)
    replace HH := Lib.hid (HH.out.past hb)
    clear hb
    obtain ⟨hb, hr0⟩ := box1 (w := w1) (tx := 95) (X := [.int .i64 (partT b p k), .int .i64 (partB b p k), .int .i64 (partD b p k), .int .i64 (resAt b p k), .int .i64 (valV b p k)])
    replace HB := Lib.hid (below_all HB.out hb)
    replace HT := Lib.hid (HT.out.past hb)
    replace HH := Lib.hid ((HH.out.past hb).cons hr0)
    clear hb hr0
    go_upto_region 2 with fail
    generalize (w1.alloc (.cells #[.int .i64 (partT b p k), .int .i64 (partB b p k), .int .i64 (partD b p k), .int .i64 (resAt b p k), .int .i64 (valV b p k)] 95)) = v1 at HB HH HT ⊢
    generalize w1.heap.size = g1_0 at HH ⊢
    have p0 : v1.cell? ⟨g1_0, 0, none⟩ = some (.int .i64 (partT b p k)) := Rd.bcell (HH.out.get 0 rfl) 0 rfl
    have p1 : v1.cell? ⟨g1_0, 1, none⟩ = some (.int .i64 (partB b p k)) := Rd.bcell (HH.out.get 0 rfl) 1 rfl
    have p2 : v1.cell? ⟨g1_0, 2, none⟩ = some (.int .i64 (partD b p k)) := Rd.bcell (HH.out.get 0 rfl) 2 rfl
    have p3 : v1.cell? ⟨g1_0, 3, none⟩ = some (.int .i64 (resAt b p k)) := Rd.bcell (HH.out.get 0 rfl) 3 rfl
    have p4 : v1.cell? ⟨g1_0, 4, none⟩ = some (.int .i64 (valV b p k)) := Rd.bcell (HH.out.get 0 rfl) 4 rfl
    by_cases ht : partT b p k = 0
    · skip
      have htb : (partT b p k == 0) = true := by simp [ht]
      have QP := Lib.hid (show puQ p.sum (valV b p k) (partD b p k) (partT b p k) = 0 by unfold puQ; rw [if_pos ht])
      clear ht
      go_wp2
      go_ret2
      exact ⟨by rw [Q.out, QP.out]; rfl, HB.out⟩
    · skip
      have htb : (partT b p k == 0) = false := by simp [ht]
      have QP := Lib.hid (show puQ p.sum (valV b p k) (partD b p k) (partT b p k) = min p.sum (valV b p k * partD b p k / partT b p k) by unfold puQ; rw [if_neg ht])
      have ht1 : 1 ≤ partT b p k := by omega
      clear ht
      have q0 : v1.cell? ⟨g0_1, 0, none⟩ = some (.int .i64 p.kind) := Rd.bcell (HH.out.get 1 rfl) 0 rfl
      have q1 : v1.cell? ⟨g0_1, 1, none⟩ = some (.int .i64 p.age) := Rd.bcell (HH.out.get 1 rfl) 1 rfl
      have q2 : v1.cell? ⟨g0_1, 2, none⟩ = some (.int .i64 p.years) := Rd.bcell (HH.out.get 1 rfl) 2 rfl
      have q3 : v1.cell? ⟨g0_1, 3, none⟩ = some (.int .i64 p.sum) := Rd.bcell (HH.out.get 1 rfl) 3 rfl
      have q4 : v1.cell? ⟨g0_1, 4, none⟩ = some (.int .i64 p.load) := Rd.bcell (HH.out.get 1 rfl) 4 rfl
      go_wp2_with fail
      clear p0 p1 p2 p3 p4 q0 q1 q2 q3 q4
      by_cases hq : valV b p k * partD b p k / partT b p k ≤ 1000000000000000000
      · skip
        have QM := Lib.hid (show mdP (valV b p k) (partD b p k) (partT b p k) = (valV b p k * partD b p k / partT b p k, valV b p k * partD b p k % partT b p k, true) by unfold mdP; rw [if_pos hq])
        refine (impl_multiplyDivide_any (valV b p k) (partD b p k) (partT b p k) _ ⟨by omega, by omega⟩ ⟨by omega, by omega⟩ ⟨by omega, by omega⟩).mono ?_
        rw [QM.out]
        rintro e w2 ⟨rfl, hb⟩
        replace HB := Lib.hid (below_all HB.out hb)
        replace HT := Lib.hid (HT.out.past hb)
        replace HH := Lib.hid (HH.out.past hb)
        clear hb
        have q0 : w2.cell? ⟨g0_1, 0, none⟩ = some (.int .i64 p.kind) := Rd.bcell (HH.out.get 1 rfl) 0 rfl
        have q1 : w2.cell? ⟨g0_1, 1, none⟩ = some (.int .i64 p.age) := Rd.bcell (HH.out.get 1 rfl) 1 rfl
        have q2 : w2.cell? ⟨g0_1, 2, none⟩ = some (.int .i64 p.years) := Rd.bcell (HH.out.get 1 rfl) 2 rfl
        have q3 : w2.cell? ⟨g0_1, 3, none⟩ = some (.int .i64 p.sum) := Rd.bcell (HH.out.get 1 rfl) 3 rfl
        have q4 : w2.cell? ⟨g0_1, 4, none⟩ = some (.int .i64 p.load) := Rd.bcell (HH.out.get 1 rfl) 4 rfl
        generalize valV b p k * partD b p k / partT b p k = z at hq QP ⊢
        generalize valV b p k * partD b p k % partT b p k = zr
        clear hq
        go_wp2
        go_ret2
        exact ⟨by rw [Q.out, QP.out]; rfl, HB.out⟩
      · skip
        have QM := Lib.hid (show mdP (valV b p k) (partD b p k) (partT b p k) = (0, 0, false) by unfold mdP; rw [if_neg hq])
        refine (impl_multiplyDivide_any (valV b p k) (partD b p k) (partT b p k) _ ⟨by omega, by omega⟩ ⟨by omega, by omega⟩ ⟨by omega, by omega⟩).mono ?_
        rw [QM.out]
        rintro e w2 ⟨rfl, hb⟩
        replace HB := Lib.hid (below_all HB.out hb)
        replace HT := Lib.hid (HT.out.past hb)
        replace HH := Lib.hid (HH.out.past hb)
        clear hb
        have q0 : w2.cell? ⟨g0_1, 0, none⟩ = some (.int .i64 p.kind) := Rd.bcell (HH.out.get 1 rfl) 0 rfl
        have q1 : w2.cell? ⟨g0_1, 1, none⟩ = some (.int .i64 p.age) := Rd.bcell (HH.out.get 1 rfl) 1 rfl
        have q2 : w2.cell? ⟨g0_1, 2, none⟩ = some (.int .i64 p.years) := Rd.bcell (HH.out.get 1 rfl) 2 rfl
        have q3 : w2.cell? ⟨g0_1, 3, none⟩ = some (.int .i64 p.sum) := Rd.bcell (HH.out.get 1 rfl) 3 rfl
        have q4 : w2.cell? ⟨g0_1, 4, none⟩ = some (.int .i64 p.load) := Rd.bcell (HH.out.get 1 rfl) 4 rfl
        have QL := Lib.hid (QP.out.trans (show min p.sum (valV b p k * partD b p k / partT b p k) = p.sum by omega))
        clear hq
        go_wp2
        go_ret2
        exact ⟨by rw [Q.out, QL.out]; rfl, HB.out⟩
  · skip
    have Q := Lib.hid (show paidUpP b p k = (0, leavCode b p k) by unfold paidUpP; rw [if_neg h0])
    have hz : (leavCode b p k != 0) = true := by simpa [bne] using h0
    go_enter Try.func33, Try.ntmps33
    have HL_bx := Lib.hid (Rd.box (HH.out.get 1 rfl))
    have HL_px := Lib.hid (Rd.box (HH.out.get 0 rfl))
    go_wp2_with (first | (refine wpList_load_agg rfl 28 _ rfl ⟨w.heap.size, 0, none⟩ rfl [.int .i64 b.first, .slice A n cap, .int .i64 b.rate] HL_bx.out _ Try.underlying28 rfl Bas.size ?_) | (refine wpList_load_agg rfl 35 _ rfl ⟨w.heap.size + 1, 0, none⟩ rfl [.int .i64 p.kind, .int .i64 p.age, .int .i64 p.years, .int .i64 p.sum, .int .i64 p.load] HL_px.out _ Try.underlying35 rfl Policy.size ?_))
    clear HL_bx HL_px
    generalize ((w.alloc (.cells #[.int .i64 b.first, .slice A n cap, .int .i64 b.rate] 28)).alloc (.cells #[.int .i64 p.kind, .int .i64 p.age, .int .i64 p.years, .int .i64 p.sum, .int .i64 p.load] 35)) = v0 at HB HH HT ⊢
    generalize w.heap.size + 1 = g0_1 at HH ⊢
    generalize w.heap.size = g0_0 at HH ⊢
    refine (impl_checkLeaving_no b A n cap p k _ HT.out hp hk h0).mono ?_
    rintro e w1 ⟨rfl, hb⟩
    replace HB := Lib.hid (below_all HB.out hb)
    replace HT := Lib.hid (HT.out.past hb)
    replace HH := Lib.hid (HH.out.past hb)
    clear hb
    obtain ⟨hb, hr0⟩ := box1 (w := w1) (tx := 95) (X := [.int .i64 0, .int .i64 0, .int .i64 0, .int .i64 0, .int .i64 0])
    replace HB := Lib.hid (below_all HB.out hb)
    replace HT := Lib.hid (HT.out.past hb)
    replace HH := Lib.hid ((HH.out.past hb).cons hr0)
    clear hb hr0
    clear h0
    generalize hc : leavCode b p k = c at hz Q ⊢
    clear hc
    have hcc : (c == 0) = false := by simpa [bne] using hz
    go_upto_region 2 with fail
    generalize (w1.alloc (.cells #[.int .i64 0, .int .i64 0, .int .i64 0, .int .i64 0, .int .i64 0] 95)) = v1 at HB HH HT ⊢
    generalize w1.heap.size = g1_0 at HH ⊢
    have p0 : v1.cell? ⟨g1_0, 0, none⟩ = some (.int .i64 0) := Rd.bcell (HH.out.get 0 rfl) 0 rfl
    have p1 : v1.cell? ⟨g1_0, 1, none⟩ = some (.int .i64 0) := Rd.bcell (HH.out.get 0 rfl) 1 rfl
    have p2 : v1.cell? ⟨g1_0, 2, none⟩ = some (.int .i64 0) := Rd.bcell (HH.out.get 0 rfl) 2 rfl
    have p3 : v1.cell? ⟨g1_0, 3, none⟩ = some (.int .i64 0) := Rd.bcell (HH.out.get 0 rfl) 3 rfl
    have p4 : v1.cell? ⟨g1_0, 4, none⟩ = some (.int .i64 0) := Rd.bcell (HH.out.get 0 rfl) 4 rfl
    go_wp2
    go_ret2
    exact ⟨by rw [Q.out]; rfl, HB.out⟩
end Go.Proofs.Ytbjdbpdgacfcpaa
end

/- The kept years: the program (printed by lv2.py). -/
section
namespace Go.Proofs.Ytbjdbpdgacfcpaa
open Go.RowKit Go.BigFrame

set_option maxRecDepth 20000 in
set_option maxHeartbeats 8000000 in
theorem impl_KeptYears_any (b : Bas) (A : Option Addr) (n cap : Nat) (p : Policy) (k : Int) (w : World) (hB : BasT w A n cap b) (hp : p.fits) (hk : In64 k) :
    Calls Try.prog 42 #[.agg #[.int .i64 b.first, .slice A n cap, .int .i64 b.rate], .agg p.row.toArray, .int .i64 k] w fun e w' => e = .returned (.tuple #[.int .i64 (keptYP b p k).1, .int .i64 (keptYP b p k).2]) ∧ Below w.heap.size w w' := by
  unfold Policy.row
  have HB := Lib.hid (Below.refl w.heap.size w)
  have HH := Lib.hid (Held.nil w)
  have HT := Lib.hid hB; clear hB
  obtain ⟨hb, hr0, hr1⟩ := box2 (w := w) (tx := 28) (ty := 35) (X := [.int .i64 b.first, .slice A n cap, .int .i64 b.rate]) (Y := [.int .i64 p.kind, .int .i64 p.age, .int .i64 p.years, .int .i64 p.sum, .int .i64 p.load])
  replace HB := Lib.hid (below_all HB.out hb)
  replace HT := Lib.hid (HT.out.past hb)
  replace HH := Lib.hid (((HH.out.past hb).cons hr0).cons hr1)
  clear hb hr0 hr1
  by_cases h0 : leavCode b p k = 0
  · skip
    have Q := Lib.hid (show keptYP b p k = ((keptM b p k (valV b p k) (durP b p - k).toNat : Int), 0) by unfold keptYP; rw [if_pos h0])
    have HY := Lib.hid (year_ok (leav_ok h0).1)
    have HPO := Lib.hid HY.out.toPolOk
    have hd120 := dur_small HPO.out
    have hk0 := HY.out.k0; have hk1 := HY.out.k1
    have ha0 := HY.out.age0; have ha1 := HY.out.age1; have hf0 := HY.out.tab.first0; have hf1 := HY.out.tab.first1
    have s1 := HY.out.sum1; have s0 := HY.out.sum0
    obtain ⟨⟨r0, r1⟩, u0, u1⟩ := val_bound HY.out
    have HBB := Lib.hid (pol_basis (res_pol (leav_ok h0).1))
    have H0 := Lib.hid h0; clear h0
    obtain ⟨V, hV⟩ : ∃ V, V = valV b p k := ⟨_, rfl⟩
    obtain ⟨N, hN⟩ : ∃ N, N = (durP b p - k).toNat := ⟨_, rfl⟩
    have hNd : (N : Int) = durP b p - k := by omega
    have HND := Lib.hid hNd; clear hNd
    rw [← hV, ← hN] at Q
    rw [← hV] at u0 u1
    have HV := Lib.hid hV
    have HN := Lib.hid hN; clear hN
    go_enter Try.func42, Try.ntmps42
    have HL_bx := Lib.hid (Rd.box (HH.out.get 1 rfl))
    have HL_px := Lib.hid (Rd.box (HH.out.get 0 rfl))
    go_wp2_with (first | (refine wpList_load_agg rfl 28 _ rfl ⟨w.heap.size, 0, none⟩ rfl [.int .i64 b.first, .slice A n cap, .int .i64 b.rate] HL_bx.out _ Try.underlying28 rfl Bas.size ?_) | (refine wpList_load_agg rfl 35 _ rfl ⟨w.heap.size + 1, 0, none⟩ rfl [.int .i64 p.kind, .int .i64 p.age, .int .i64 p.years, .int .i64 p.sum, .int .i64 p.load] HL_px.out _ Try.underlying35 rfl Policy.size ?_))
    clear HL_bx HL_px
    generalize ((w.alloc (.cells #[.int .i64 b.first, .slice A n cap, .int .i64 b.rate] 28)).alloc (.cells #[.int .i64 p.kind, .int .i64 p.age, .int .i64 p.years, .int .i64 p.sum, .int .i64 p.load] 35)) = v0 at HB HH HT ⊢
    generalize w.heap.size + 1 = g0_1 at HH ⊢
    generalize w.heap.size = g0_0 at HH ⊢
    refine (impl_checkLeaving_ok b A n cap p k _ HT.out hp hk H0.out).mono ?_
    rw [← hV]
    rintro e w1 ⟨rfl, hb⟩
    clear hV
    replace HB := Lib.hid (below_all HB.out hb)
    replace HT := Lib.hid (HT.out.past hb)
    replace HH := Lib.hid (HH.out.past hb)
    clear hb
    obtain ⟨hb, hr0⟩ := box1 (w := w1) (tx := 95) (X := [.int .i64 (partT b p k), .int .i64 (partB b p k), .int .i64 (partD b p k), .int .i64 (resAt b p k), .int .i64 V])
    replace HB := Lib.hid (below_all HB.out hb)
    replace HT := Lib.hid (HT.out.past hb)
    replace HH := Lib.hid ((HH.out.past hb).cons hr0)
    clear hb hr0
    go_upto_region 2 with fail
    generalize (w1.alloc (.cells #[.int .i64 (partT b p k), .int .i64 (partB b p k), .int .i64 (partD b p k), .int .i64 (resAt b p k), .int .i64 V] 95)) = v1 at HB HH HT ⊢
    generalize w1.heap.size = g1_0 at HH ⊢
    have HH1 := HH
    have HT1 := HT
    have HB1 := HB
    go_wp2
    go_loopw [10, 11] (fun s i wr => ∃ (j : Nat) (mi yi : Int), j ≤ N ∧ mi = (j : Int) + 1 ∧ yi = (keptM b p k V j : Int) ∧ i = .int .i64 mi ∧ s = .int .i64 yi ∧ Below v1.heap.size v1 wr) (fun _ i _ => N + 1 - (intOf i).toNat)
    case atStart => exact ⟨0, 1, 0, by omega, rfl, rfl, rfl, rfl, Below.refl _ _⟩
    case round =>
      clear HB HH HT
      obtain ⟨j, mi, yi, hj, hmi, hyi, rfl, rfl, hb⟩ := hrel
      have HMI := Lib.hid hmi; clear hmi
      have HYI := Lib.hid hyi; clear hyi
      have HW := Lib.hid hb
      have HH := Lib.hid (HH1.out.past hb)
      have HT := Lib.hid (HT1.out.past hb)
      have HB := Lib.hid (HB1.out.trans (hb.mono HB1.out.size))
      clear hb
      have hm0 : 1 ≤ mi := by have := HMI.out; omega
      have hm1 : mi ≤ 1000 := by have := HMI.out; have := HND.out; omega
      have HL_bx := Lib.hid (Rd.box (HH.out.get 2 rfl))
      have HL_px := Lib.hid (Rd.box (HH.out.get 1 rfl))
      go_wp2_with (first | (refine wpList_load_agg rfl 28 _ rfl ⟨g0_0, 0, none⟩ rfl [.int .i64 b.first, .slice A n cap, .int .i64 b.rate] HL_bx.out _ Try.underlying28 rfl Bas.size ?_) | (refine wpList_load_agg rfl 35 _ rfl ⟨g0_1, 0, none⟩ rfl [.int .i64 p.kind, .int .i64 p.age, .int .i64 p.years, .int .i64 p.sum, .int .i64 p.load] HL_px.out _ Try.underlying35 rfl Policy.size ?_))
      clear HL_bx HL_px
      refine (impl_durationOf_any b A n cap p _ HT.out HPO.out).mono ?_
      rintro e w2 ⟨rfl, hb⟩
      replace HW := Lib.hid (HW.out.trans (hb.mono HW.out.size))
      replace HB := Lib.hid (below_all HB.out hb)
      replace HT := Lib.hid (HT.out.past hb)
      replace HH := Lib.hid (HH.out.past hb)
      clear hb
      by_cases hlt : j < N
      · skip
        have hle : decide (mi ≤ durP b p - k) = true := by simp; have := HMI.out; have := HND.out; omega
        have HAS := Lib.hid (kept_assur HY.out (m := mi) hm0 (by have := HMI.out; have := HND.out; omega))
        obtain ⟨_, _, x0, x1⟩ := kept_price HY.out (m := mi)
        have HDD := Lib.hid (show b.d (p.age + k) ≠ 0 by have := HY.out.d1; omega)
        have q0 : w2.cell? ⟨g0_0, 0, none⟩ = some (.int .i64 b.first) := Rd.bcell (HH.out.get 2 rfl) 0 rfl
        have q1 : w2.cell? ⟨g0_0, 1, none⟩ = some (.slice A n cap) := Rd.bcell (HH.out.get 2 rfl) 1 rfl
        have q2 : w2.cell? ⟨g0_0, 2, none⟩ = some (.int .i64 b.rate) := Rd.bcell (HH.out.get 2 rfl) 2 rfl
        have p0 : w2.cell? ⟨g0_1, 0, none⟩ = some (.int .i64 p.kind) := Rd.bcell (HH.out.get 1 rfl) 0 rfl
        have p1 : w2.cell? ⟨g0_1, 1, none⟩ = some (.int .i64 p.age) := Rd.bcell (HH.out.get 1 rfl) 1 rfl
        have p2 : w2.cell? ⟨g0_1, 2, none⟩ = some (.int .i64 p.years) := Rd.bcell (HH.out.get 1 rfl) 2 rfl
        have p3 : w2.cell? ⟨g0_1, 3, none⟩ = some (.int .i64 p.sum) := Rd.bcell (HH.out.get 1 rfl) 3 rfl
        have p4 : w2.cell? ⟨g0_1, 4, none⟩ = some (.int .i64 p.load) := Rd.bcell (HH.out.get 1 rfl) 4 rfl
        have HL_tx := Lib.hid (Rd.boxT (HH.out.get 2 rfl))
        go_wp2_with (refine wpList_load_agg rfl 26 _ rfl ⟨g0_0, 0, none⟩ rfl [.int .i64 b.first, .slice A n cap] HL_tx.out _ Try.underlying26 rfl Tab.size ?_)
        clear HL_tx
        clear q0 q1 q2
        clear p0 p1 p2 p3 p4
        obtain ⟨X, hX⟩ : ∃ X, X = priceP b 1 (p.age + k) mi p.sum := ⟨_, rfl⟩
        rw [← hX] at x0 x1
        refine (impl_AssurancePrice_at b A n cap 1 (p.age + k) mi p.sum _ HT.out HBB.out HAS.out HDD.out).mono ?_
        rw [← hX]
        rintro e w3 ⟨rfl, hb⟩
        replace HW := Lib.hid (HW.out.trans (hb.mono HW.out.size))
        replace HB := Lib.hid (below_all HB.out hb)
        replace HT := Lib.hid (HT.out.past hb)
        replace HH := Lib.hid (HH.out.past hb)
        clear hb
        have p0 : w3.cell? ⟨g1_0, 0, none⟩ = some (.int .i64 (partT b p k)) := Rd.bcell (HH.out.get 0 rfl) 0 rfl
        have p1 : w3.cell? ⟨g1_0, 1, none⟩ = some (.int .i64 (partB b p k)) := Rd.bcell (HH.out.get 0 rfl) 1 rfl
        have p2 : w3.cell? ⟨g1_0, 2, none⟩ = some (.int .i64 (partD b p k)) := Rd.bcell (HH.out.get 0 rfl) 2 rfl
        have p3 : w3.cell? ⟨g1_0, 3, none⟩ = some (.int .i64 (resAt b p k)) := Rd.bcell (HH.out.get 0 rfl) 3 rfl
        have p4 : w3.cell? ⟨g1_0, 4, none⟩ = some (.int .i64 V) := Rd.bcell (HH.out.get 0 rfl) 4 rfl
        by_cases hxv : X ≤ V
        · skip
          have hxb : decide (X ≤ V) = true := by simp; omega
          have HK := Lib.hid (show (keptM b p k V (j + 1) : Int) = mi by rw [keptM_pos (by rw [← HMI.out, ← hX]; exact hxv)]; have := HMI.out; omega)
          clear hxv hX
          go_wp2
          go_roundw
          case rel => exact ⟨j + 1, mi + 1, mi, by have := HMI.out; have := HND.out; omega, by have := HMI.out; omega, HK.out.symm, by go_num, rfl, HW.out⟩
          case measure => have := HMI.out; have := HND.out; simp [intOf]; omega
        · skip
          have hxb : decide (X ≤ V) = false := by simp; omega
          have HK := Lib.hid (show (keptM b p k V (j + 1) : Int) = yi by rw [keptM_neg (by rw [← HMI.out, ← hX]; exact hxv)]; exact HYI.out.symm)
          clear hxv hX
          go_wp2
          go_roundw
          case rel => exact ⟨j + 1, mi + 1, yi, by have := HMI.out; have := HND.out; omega, by have := HMI.out; omega, HK.out.symm, by go_num, rfl, HW.out⟩
          case measure => have := HMI.out; have := HND.out; simp [intOf]; omega
      · skip
        have hle : decide (mi ≤ durP b p - k) = false := by simp; have := HMI.out; have := HND.out; omega
        have hjn : j = N := by omega
        subst hjn
        have QY := Lib.hid (show (keptM b p k V j : Int) = yi from HYI.out.symm)
        go_wp2
        go_ret2
        exact ⟨by rw [Q.out, QY.out]; rfl, HB.out⟩
  · skip
    have Q := Lib.hid (show keptYP b p k = (0, leavCode b p k) by unfold keptYP; rw [if_neg h0])
    have hz : (leavCode b p k != 0) = true := by simpa [bne] using h0
    go_enter Try.func42, Try.ntmps42
    have HL_bx := Lib.hid (Rd.box (HH.out.get 1 rfl))
    have HL_px := Lib.hid (Rd.box (HH.out.get 0 rfl))
    go_wp2_with (first | (refine wpList_load_agg rfl 28 _ rfl ⟨w.heap.size, 0, none⟩ rfl [.int .i64 b.first, .slice A n cap, .int .i64 b.rate] HL_bx.out _ Try.underlying28 rfl Bas.size ?_) | (refine wpList_load_agg rfl 35 _ rfl ⟨w.heap.size + 1, 0, none⟩ rfl [.int .i64 p.kind, .int .i64 p.age, .int .i64 p.years, .int .i64 p.sum, .int .i64 p.load] HL_px.out _ Try.underlying35 rfl Policy.size ?_))
    clear HL_bx HL_px
    generalize ((w.alloc (.cells #[.int .i64 b.first, .slice A n cap, .int .i64 b.rate] 28)).alloc (.cells #[.int .i64 p.kind, .int .i64 p.age, .int .i64 p.years, .int .i64 p.sum, .int .i64 p.load] 35)) = v0 at HB HH HT ⊢
    generalize w.heap.size + 1 = g0_1 at HH ⊢
    generalize w.heap.size = g0_0 at HH ⊢
    refine (impl_checkLeaving_no b A n cap p k _ HT.out hp hk h0).mono ?_
    rintro e w1 ⟨rfl, hb⟩
    replace HB := Lib.hid (below_all HB.out hb)
    replace HT := Lib.hid (HT.out.past hb)
    replace HH := Lib.hid (HH.out.past hb)
    clear hb
    obtain ⟨hb, hr0⟩ := box1 (w := w1) (tx := 95) (X := [.int .i64 0, .int .i64 0, .int .i64 0, .int .i64 0, .int .i64 0])
    replace HB := Lib.hid (below_all HB.out hb)
    replace HT := Lib.hid (HT.out.past hb)
    replace HH := Lib.hid ((HH.out.past hb).cons hr0)
    clear hb hr0
    clear h0
    generalize hc : leavCode b p k = c at hz Q ⊢
    clear hc
    have hcc : (c == 0) = false := by simpa [bne] using hz
    go_upto_region 2 with fail
    generalize (w1.alloc (.cells #[.int .i64 0, .int .i64 0, .int .i64 0, .int .i64 0, .int .i64 0] 95)) = v1 at HB HH HT ⊢
    generalize w1.heap.size = g1_0 at HH ⊢
    go_wp2
    go_ret2
    exact ⟨by rw [Q.out]; rfl, HB.out⟩
end Go.Proofs.Ytbjdbpdgacfcpaa
end
