/- Parts of a proof, one after another: Rl1. No condition. -/
import Derived.Test.YtbjdbpdgacfcpaaK1
import Derived.Test.YtbjdbpdgacfcpaaK9
import Derived.Test.YtbjdbpdgacfcpaaK13
import Derived.Test.YtbjdbpdgacfcpaaK16
/- Forward reserves, denominators, lists of reserves: contracts (printed by rl1.py). -/
section
namespace Go.Proofs.Ytbjdbpdgacfcpaa
open Go.RowKit Go.BigFrame

theorem spec_l05D_at (b : Bas) (A : Option Addr) (n cap : Nat) (age : Int) (w : World) (hB : BasT w A n cap b) (B : BasOk b) (ha : b.first ≤ age ∧ age ≤ 1000) :
    Calls Try.prog 78 #[.agg #[.int .i64 b.first, .slice A n cap], .int .i64 b.rate, .int .i64 age] w fun e w' => e = .returned (.int .i64 (b.d age)) ∧ Below w.heap.size w w' :=
  spec_l05D_any b.first A n cap b.lives b.rate age w hB.lives B.tab ⟨B.rate0, B.rate1⟩ ha
theorem impl_checkReserve_ok (b : Bas) (A : Option Addr) (n cap : Nat) (p : Policy) (k : Int) (w : World) (hB : BasT w A n cap b) (hp : p.fits) (hk : In64 k) (h : resCode b p k = 0) :
    Calls Try.prog 81 #[.agg #[.int .i64 b.first, .slice A n cap, .int .i64 b.rate], .agg p.row.toArray, .int .i64 k] w fun e w' => e = .returned (.tuple #[.agg #[.int .i64 (partT b p k), .int .i64 (partB b p k), .int .i64 (partD b p k)], .int .i64 0]) ∧ Below w.heap.size w w' := by
  refine (impl_checkReserve_any b A n cap p k w hB hp hk).mono ?_
  rintro e w' ⟨rfl, hb⟩
  exact ⟨by rw [h, show resParts b p k = [.int .i64 (partT b p k), .int .i64 (partB b p k), .int .i64 (partD b p k)] from if_pos h], hb⟩
theorem impl_checkReserve_no (b : Bas) (A : Option Addr) (n cap : Nat) (p : Policy) (k : Int) (w : World) (hB : BasT w A n cap b) (hp : p.fits) (hk : In64 k) (h : ¬ resCode b p k = 0) :
    Calls Try.prog 81 #[.agg #[.int .i64 b.first, .slice A n cap, .int .i64 b.rate], .agg p.row.toArray, .int .i64 k] w fun e w' => e = .returned (.tuple #[.agg #[.int .i64 0, .int .i64 0, .int .i64 0], .int .i64 (resCode b p k)]) ∧ Below w.heap.size w w' := by
  refine (impl_checkReserve_any b A n cap p k w hB hp hk).mono ?_
  rintro e w' ⟨rfl, hb⟩
  exact ⟨by rw [show resParts b p k = [.int .i64 0, .int .i64 0, .int .i64 0] from if_neg h], hb⟩
set_option maxRecDepth 20000 in
set_option maxHeartbeats 8000000 in
theorem impl_ForwardReserve_any (b : Bas) (A : Option Addr) (n cap : Nat) (p : Policy) (k : Int) (w : World) (hB : BasT w A n cap b) (hp : p.fits) (hk : In64 k) :
    Calls Try.prog 31 #[.agg #[.int .i64 b.first, .slice A n cap, .int .i64 b.rate], .agg p.row.toArray, .int .i64 k] w fun e w' => e = .returned (.tuple #[.int .i64 (fwdRP b p k).1, .int .i64 (fwdRP b p k).2.1, .int .i64 (fwdRP b p k).2.2]) ∧ Below w.heap.size w w' := by
  unfold Policy.row
  have HB := Lib.hid (Below.refl w.heap.size w)
  have HH := Lib.hid (Held.nil w)
  have HT := Lib.hid hB; clear hB
  obtain ⟨hb, hr0, hr1⟩ := box2 (w := w) (tx := 28) (ty := 35) (X := [.int .i64 b.first, .slice A n cap, .int .i64 b.rate]) (Y := [.int .i64 p.kind, .int .i64 p.age, .int .i64 p.years, .int .i64 p.sum, .int .i64 p.load])
  replace HB := Lib.hid (below_all HB.out hb)
  replace HT := Lib.hid (HT.out.past hb)
  replace HH := Lib.hid (((HH.out.past hb).cons hr0).cons hr1)
  clear hb hr0 hr1
  by_cases h0 : resCode b p k = 0
  · skip
    have Q := Lib.hid (show fwdRP b p k = ((fwdAt b p k).1, (fwdAt b p k).2, 0) by unfold fwdRP; rw [if_pos h0])
    have HY := Lib.hid (year_ok h0)
    have HPO := Lib.hid (part_ok HY.out (net_bound HY.out.toPolOk))
    have HPB := Lib.hid (res_pol h0)
    go_enter Try.func31, Try.ntmps31
    have HL_bx := Lib.hid (Rd.box (HH.out.get 1 rfl))
    have HL_px := Lib.hid (Rd.box (HH.out.get 0 rfl))
    go_wp2_with (first | (refine wpList_load_agg rfl 28 _ rfl ⟨w.heap.size, 0, none⟩ rfl [.int .i64 b.first, .slice A n cap, .int .i64 b.rate] HL_bx.out _ Try.underlying28 rfl Bas.size ?_) | (refine wpList_load_agg rfl 35 _ rfl ⟨w.heap.size + 1, 0, none⟩ rfl [.int .i64 p.kind, .int .i64 p.age, .int .i64 p.years, .int .i64 p.sum, .int .i64 p.load] HL_px.out _ Try.underlying35 rfl Policy.size ?_))
    clear HL_bx HL_px
    generalize ((w.alloc (.cells #[.int .i64 b.first, .slice A n cap, .int .i64 b.rate] 28)).alloc (.cells #[.int .i64 p.kind, .int .i64 p.age, .int .i64 p.years, .int .i64 p.sum, .int .i64 p.load] 35)) = v0 at HB HH HT ⊢
    generalize w.heap.size + 1 = g0_1 at HH ⊢
    generalize w.heap.size = g0_0 at HH ⊢
    refine (impl_checkReserve_ok b A n cap p k _ HT.out hp hk h0).mono ?_
    rintro e w1 ⟨rfl, hb⟩
    replace HB := Lib.hid (below_all HB.out hb)
    replace HT := Lib.hid (HT.out.past hb)
    replace HH := Lib.hid (HH.out.past hb)
    clear hb
    obtain ⟨hb, hr0⟩ := box1 (w := w1) (tx := 90) (X := [.int .i64 (partT b p k), .int .i64 (partB b p k), .int .i64 (partD b p k)])
    replace HB := Lib.hid (below_all HB.out hb)
    replace HT := Lib.hid (HT.out.past hb)
    replace HH := Lib.hid ((HH.out.past hb).cons hr0)
    clear hb hr0
    clear h0
    go_wp2_with fail
    generalize (w1.alloc (.cells #[.int .i64 (partT b p k), .int .i64 (partB b p k), .int .i64 (partD b p k)] 90)) = v1 at HB HH HT ⊢
    generalize w1.heap.size = g1_0 at HH ⊢
    have p0 : v1.cell? ⟨g0_1, 0, none⟩ = some (.int .i64 p.kind) := Rd.bcell (HH.out.get 1 rfl) 0 rfl
    have p1 : v1.cell? ⟨g0_1, 1, none⟩ = some (.int .i64 p.age) := Rd.bcell (HH.out.get 1 rfl) 1 rfl
    have p2 : v1.cell? ⟨g0_1, 2, none⟩ = some (.int .i64 p.years) := Rd.bcell (HH.out.get 1 rfl) 2 rfl
    have p3 : v1.cell? ⟨g0_1, 3, none⟩ = some (.int .i64 p.sum) := Rd.bcell (HH.out.get 1 rfl) 3 rfl
    have p4 : v1.cell? ⟨g0_1, 4, none⟩ = some (.int .i64 p.load) := Rd.bcell (HH.out.get 1 rfl) 4 rfl
    have d3 := fun y : Past v1 => Past.cell p3 y
    clear p0 p1 p2 p3 p4
    have hQ_bx := Lib.hid (Past.cells' (Rd.box (HH.out.get 2 rfl)))
    have hQ_px := Lib.hid (Past.cells' (Rd.box (HH.out.get 1 rfl)))
    have hQ_rp := Lib.hid (Past.cells' (Rd.box (HH.out.get 0 rfl)))
    refine wp_region_past (by kernel_rfl) (by kernel_rfl) ?_
    repeat (first | (go_big_quiet_want; (first | (first | (refine quiet_load_agg 28 _ rfl ⟨g0_0, 0, none⟩ rfl [.int .i64 b.first, .slice A n cap, .int .i64 b.rate] hQ_bx.out _ Try.underlying28 rfl Bas.size ?_) | (refine quiet_load_agg 35 _ rfl ⟨g0_1, 0, none⟩ rfl [.int .i64 p.kind, .int .i64 p.age, .int .i64 p.years, .int .i64 p.sum, .int .i64 p.load] hQ_px.out _ Try.underlying35 rfl Policy.size ?_) | (refine quiet_load_agg 90 _ rfl ⟨g1_0, 0, none⟩ rfl [.int .i64 (partT b p k), .int .i64 (partB b p k), .int .i64 (partD b p k)] hQ_rp.out _ Try.underlying90 rfl ReserveParts.size ?_))); go_simp; go_big_quiet_on) | go_big_quiet_step ((first | (go_at_call 85; exact past_call (impl_netPremium_any b A n cap p _ (HT.out.at_past _) HPB.out)) | (go_at_call 84; exact past_call (impl_reserveParts_forward_any p.sum (partT b p k) (netP b p) (partB b p k) (partD b p k) _ HPO.out)))))
    refine wpQuiet_nil ?_
    rintro _ ⟨y, rfl⟩
    have hb := y.2
    replace HB := Lib.hid (below_all HB.out hb)
    replace HT := Lib.hid (HT.out.past hb)
    replace HH := Lib.hid (HH.out.past hb)
    clear hb
    clear hQ_bx hQ_px hQ_rp
    go_wp2
    go_ret3
    exact ⟨by rw [Q.out]; rfl, HB.out⟩
  · skip
    have Q := Lib.hid (show fwdRP b p k = (0, 0, resCode b p k) by unfold fwdRP; rw [if_neg h0])
    have hz : (resCode b p k != 0) = true := by simpa [bne] using h0
    go_enter Try.func31, Try.ntmps31
    have HL_bx := Lib.hid (Rd.box (HH.out.get 1 rfl))
    have HL_px := Lib.hid (Rd.box (HH.out.get 0 rfl))
    go_wp2_with (first | (refine wpList_load_agg rfl 28 _ rfl ⟨w.heap.size, 0, none⟩ rfl [.int .i64 b.first, .slice A n cap, .int .i64 b.rate] HL_bx.out _ Try.underlying28 rfl Bas.size ?_) | (refine wpList_load_agg rfl 35 _ rfl ⟨w.heap.size + 1, 0, none⟩ rfl [.int .i64 p.kind, .int .i64 p.age, .int .i64 p.years, .int .i64 p.sum, .int .i64 p.load] HL_px.out _ Try.underlying35 rfl Policy.size ?_))
    clear HL_bx HL_px
    generalize ((w.alloc (.cells #[.int .i64 b.first, .slice A n cap, .int .i64 b.rate] 28)).alloc (.cells #[.int .i64 p.kind, .int .i64 p.age, .int .i64 p.years, .int .i64 p.sum, .int .i64 p.load] 35)) = v0 at HB HH HT ⊢
    generalize w.heap.size + 1 = g0_1 at HH ⊢
    generalize w.heap.size = g0_0 at HH ⊢
    refine (impl_checkReserve_no b A n cap p k _ HT.out hp hk h0).mono ?_
    rintro e w1 ⟨rfl, hb⟩
    replace HB := Lib.hid (below_all HB.out hb)
    replace HT := Lib.hid (HT.out.past hb)
    replace HH := Lib.hid (HH.out.past hb)
    clear hb
    obtain ⟨hb, hr0⟩ := box1 (w := w1) (tx := 90) (X := [.int .i64 0, .int .i64 0, .int .i64 0])
    replace HB := Lib.hid (below_all HB.out hb)
    replace HT := Lib.hid (HT.out.past hb)
    replace HH := Lib.hid ((HH.out.past hb).cons hr0)
    clear hb hr0
    clear h0
    generalize hc : resCode b p k = c at hz Q ⊢
    have hcc : (c == 0) = false := by simpa [bne] using hz
    go_wp2_with fail
    generalize (w1.alloc (.cells #[.int .i64 0, .int .i64 0, .int .i64 0] 90)) = v1 at HB HH HT ⊢
    generalize w1.heap.size = g1_0 at HH ⊢
    go_ret3
    exact ⟨by rw [Q.out]; rfl, HB.out⟩
set_option maxRecDepth 20000 in
set_option maxHeartbeats 8000000 in
theorem impl_DenominatorAt_any (b : Bas) (A : Option Addr) (n cap : Nat) (p : Policy) (k : Int) (w : World) (hB : BasT w A n cap b) (hp : p.fits) (hk : In64 k) :
    Calls Try.prog 28 #[.agg #[.int .i64 b.first, .slice A n cap, .int .i64 b.rate], .agg p.row.toArray, .int .i64 k] w fun e w' => e = .returned (.tuple #[.int .i64 (denP b p k).1, .int .i64 (denP b p k).2]) ∧ Below w.heap.size w w' := by
  unfold Policy.row
  have HB := Lib.hid (Below.refl w.heap.size w)
  have HH := Lib.hid (Held.nil w)
  have HT := Lib.hid hB; clear hB
  obtain ⟨hb, hr0, hr1⟩ := box2 (w := w) (tx := 28) (ty := 35) (X := [.int .i64 b.first, .slice A n cap, .int .i64 b.rate]) (Y := [.int .i64 p.kind, .int .i64 p.age, .int .i64 p.years, .int .i64 p.sum, .int .i64 p.load])
  replace HB := Lib.hid (below_all HB.out hb)
  replace HT := Lib.hid (HT.out.past hb)
  replace HH := Lib.hid (((HH.out.past hb).cons hr0).cons hr1)
  clear hb hr0 hr1
  by_cases h0 : resCode b p k = 0
  · skip
    have Q := Lib.hid (show denP b p k = (partD b p k, 0) by unfold denP; rw [if_pos h0])
    go_enter Try.func28, Try.ntmps28
    have HL_bx := Lib.hid (Rd.box (HH.out.get 1 rfl))
    have HL_px := Lib.hid (Rd.box (HH.out.get 0 rfl))
    go_wp2_with (first | (refine wpList_load_agg rfl 28 _ rfl ⟨w.heap.size, 0, none⟩ rfl [.int .i64 b.first, .slice A n cap, .int .i64 b.rate] HL_bx.out _ Try.underlying28 rfl Bas.size ?_) | (refine wpList_load_agg rfl 35 _ rfl ⟨w.heap.size + 1, 0, none⟩ rfl [.int .i64 p.kind, .int .i64 p.age, .int .i64 p.years, .int .i64 p.sum, .int .i64 p.load] HL_px.out _ Try.underlying35 rfl Policy.size ?_))
    clear HL_bx HL_px
    generalize ((w.alloc (.cells #[.int .i64 b.first, .slice A n cap, .int .i64 b.rate] 28)).alloc (.cells #[.int .i64 p.kind, .int .i64 p.age, .int .i64 p.years, .int .i64 p.sum, .int .i64 p.load] 35)) = v0 at HB HH HT ⊢
    generalize w.heap.size + 1 = g0_1 at HH ⊢
    generalize w.heap.size = g0_0 at HH ⊢
    refine (impl_checkReserve_ok b A n cap p k _ HT.out hp hk h0).mono ?_
    rintro e w1 ⟨rfl, hb⟩
    replace HB := Lib.hid (below_all HB.out hb)
    replace HT := Lib.hid (HT.out.past hb)
    replace HH := Lib.hid (HH.out.past hb)
    clear hb
    obtain ⟨hb, hr0⟩ := box1 (w := w1) (tx := 90) (X := [.int .i64 (partT b p k), .int .i64 (partB b p k), .int .i64 (partD b p k)])
    replace HB := Lib.hid (below_all HB.out hb)
    replace HT := Lib.hid (HT.out.past hb)
    replace HH := Lib.hid ((HH.out.past hb).cons hr0)
    clear hb hr0
    go_wp2
    go_ret2
    exact ⟨by rw [Q.out]; rfl, HB.out⟩
  · skip
    have Q := Lib.hid (show denP b p k = (0, resCode b p k) by unfold denP; rw [if_neg h0])
    go_enter Try.func28, Try.ntmps28
    have HL_bx := Lib.hid (Rd.box (HH.out.get 1 rfl))
    have HL_px := Lib.hid (Rd.box (HH.out.get 0 rfl))
    go_wp2_with (first | (refine wpList_load_agg rfl 28 _ rfl ⟨w.heap.size, 0, none⟩ rfl [.int .i64 b.first, .slice A n cap, .int .i64 b.rate] HL_bx.out _ Try.underlying28 rfl Bas.size ?_) | (refine wpList_load_agg rfl 35 _ rfl ⟨w.heap.size + 1, 0, none⟩ rfl [.int .i64 p.kind, .int .i64 p.age, .int .i64 p.years, .int .i64 p.sum, .int .i64 p.load] HL_px.out _ Try.underlying35 rfl Policy.size ?_))
    clear HL_bx HL_px
    generalize ((w.alloc (.cells #[.int .i64 b.first, .slice A n cap, .int .i64 b.rate] 28)).alloc (.cells #[.int .i64 p.kind, .int .i64 p.age, .int .i64 p.years, .int .i64 p.sum, .int .i64 p.load] 35)) = v0 at HB HH HT ⊢
    generalize w.heap.size + 1 = g0_1 at HH ⊢
    generalize w.heap.size = g0_0 at HH ⊢
    refine (impl_checkReserve_no b A n cap p k _ HT.out hp hk h0).mono ?_
    rintro e w1 ⟨rfl, hb⟩
    replace HB := Lib.hid (below_all HB.out hb)
    replace HT := Lib.hid (HT.out.past hb)
    replace HH := Lib.hid (HH.out.past hb)
    clear hb
    obtain ⟨hb, hr0⟩ := box1 (w := w1) (tx := 90) (X := [.int .i64 0, .int .i64 0, .int .i64 0])
    replace HB := Lib.hid (below_all HB.out hb)
    replace HT := Lib.hid (HT.out.past hb)
    replace HH := Lib.hid ((HH.out.past hb).cons hr0)
    clear hb hr0
    go_wp2
    go_ret2
    exact ⟨by rw [Q.out]; rfl, HB.out⟩
set_option maxRecDepth 20000 in
set_option maxHeartbeats 8000000 in
theorem spec_DenominatorAt_any (b : Bas) (A : Option Addr) (n cap : Nat) (p : Policy) (k : Int) (w : World) (hB : BasT w A n cap b) (hp : p.fits) (hk : In64 k) :
    Calls Try.prog 29 #[.agg #[.int .i64 b.first, .slice A n cap, .int .i64 b.rate], .agg p.row.toArray, .int .i64 k] w fun e w' => e = .returned (.tuple #[.int .i64 (denP b p k).1, .int .i64 (denP b p k).2]) ∧ Below w.heap.size w w' := by
  unfold Policy.row
  have HB := Lib.hid (Below.refl w.heap.size w)
  have HH := Lib.hid (Held.nil w)
  have HT := Lib.hid hB; clear hB
  obtain ⟨hb, hr0, hr1⟩ := box2 (w := w) (tx := 28) (ty := 35) (X := [.int .i64 b.first, .slice A n cap, .int .i64 b.rate]) (Y := [.int .i64 p.kind, .int .i64 p.age, .int .i64 p.years, .int .i64 p.sum, .int .i64 p.load])
  replace HB := Lib.hid (below_all HB.out hb)
  replace HT := Lib.hid (HT.out.past hb)
  replace HH := Lib.hid (((HH.out.past hb).cons hr0).cons hr1)
  clear hb hr0 hr1
  by_cases h0 : resCode b p k = 0
  · skip
    have Q := Lib.hid (show denP b p k = (partD b p k, 0) by unfold denP; rw [if_pos h0])
    have HY := Lib.hid (year_ok h0)
    have H0 := Lib.hid h0
    have hyf := (year_facts HY.out).2
    have hk0 := HY.out.k0
    have ha0 := HY.out.age0
    have hf0 := HY.out.tab.first0
    have hpl : IntKind.i64.wrap (p.age + k) = p.age + k := IntWalk.i64_in _ (by omega)
    clear h0
    go_enter Try.func29, Try.ntmps29
    have HL_bx := Lib.hid (Rd.box (HH.out.get 1 rfl))
    have HL_px := Lib.hid (Rd.box (HH.out.get 0 rfl))
    go_wp2_with (first | (refine wpList_load_agg rfl 28 _ rfl ⟨w.heap.size, 0, none⟩ rfl [.int .i64 b.first, .slice A n cap, .int .i64 b.rate] HL_bx.out _ Try.underlying28 rfl Bas.size ?_) | (refine wpList_load_agg rfl 35 _ rfl ⟨w.heap.size + 1, 0, none⟩ rfl [.int .i64 p.kind, .int .i64 p.age, .int .i64 p.years, .int .i64 p.sum, .int .i64 p.load] HL_px.out _ Try.underlying35 rfl Policy.size ?_))
    clear HL_bx HL_px
    generalize ((w.alloc (.cells #[.int .i64 b.first, .slice A n cap, .int .i64 b.rate] 28)).alloc (.cells #[.int .i64 p.kind, .int .i64 p.age, .int .i64 p.years, .int .i64 p.sum, .int .i64 p.load] 35)) = v0 at HB HH HT ⊢
    generalize w.heap.size + 1 = g0_1 at HH ⊢
    generalize w.heap.size = g0_0 at HH ⊢
    refine (spec_l11Code_any b A n cap p k _ HT.out hp hk).mono ?_
    rw [H0.out]
    rintro e w1 ⟨rfl, hb⟩
    replace HB := Lib.hid (below_all HB.out hb)
    replace HT := Lib.hid (HT.out.past hb)
    replace HH := Lib.hid (HH.out.past hb)
    clear hb
    have p0 : w1.cell? ⟨g0_1, 0, none⟩ = some (.int .i64 p.kind) := Rd.bcell (HH.out.get 0 rfl) 0 rfl
    have p1 : w1.cell? ⟨g0_1, 1, none⟩ = some (.int .i64 p.age) := Rd.bcell (HH.out.get 0 rfl) 1 rfl
    have p2 : w1.cell? ⟨g0_1, 2, none⟩ = some (.int .i64 p.years) := Rd.bcell (HH.out.get 0 rfl) 2 rfl
    have p3 : w1.cell? ⟨g0_1, 3, none⟩ = some (.int .i64 p.sum) := Rd.bcell (HH.out.get 0 rfl) 3 rfl
    have p4 : w1.cell? ⟨g0_1, 4, none⟩ = some (.int .i64 p.load) := Rd.bcell (HH.out.get 0 rfl) 4 rfl
    have q0 : w1.cell? ⟨g0_0, 0, none⟩ = some (.int .i64 b.first) := Rd.bcell (HH.out.get 1 rfl) 0 rfl
    have q1 : w1.cell? ⟨g0_0, 1, none⟩ = some (.slice A n cap) := Rd.bcell (HH.out.get 1 rfl) 1 rfl
    have q2 : w1.cell? ⟨g0_0, 2, none⟩ = some (.int .i64 b.rate) := Rd.bcell (HH.out.get 1 rfl) 2 rfl
    have HL_tx := Lib.hid (Rd.boxT (HH.out.get 1 rfl))
    go_wp2_with (refine wpList_load_agg rfl 26 _ rfl ⟨g0_0, 0, none⟩ rfl [.int .i64 b.first, .slice A n cap] HL_tx.out _ Try.underlying26 rfl Tab.size ?_)
    clear HL_tx
    refine (spec_l05D_at b A n cap (p.age + k) _ HT.out HY.out.toBasOk ⟨by omega, by omega⟩).mono ?_
    rintro e w2 ⟨rfl, hb⟩
    replace HB := Lib.hid (below_all HB.out hb)
    replace HT := Lib.hid (HT.out.past hb)
    replace HH := Lib.hid (HH.out.past hb)
    clear hb
    go_wp2
    go_ret2
    exact ⟨by rw [Q.out]; rfl, HB.out⟩
  · skip
    have Q := Lib.hid (show denP b p k = (0, resCode b p k) by unfold denP; rw [if_neg h0])
    have hz : (resCode b p k != 0) = true := by simpa [bne] using h0
    go_enter Try.func29, Try.ntmps29
    have HL_bx := Lib.hid (Rd.box (HH.out.get 1 rfl))
    have HL_px := Lib.hid (Rd.box (HH.out.get 0 rfl))
    go_wp2_with (first | (refine wpList_load_agg rfl 28 _ rfl ⟨w.heap.size, 0, none⟩ rfl [.int .i64 b.first, .slice A n cap, .int .i64 b.rate] HL_bx.out _ Try.underlying28 rfl Bas.size ?_) | (refine wpList_load_agg rfl 35 _ rfl ⟨w.heap.size + 1, 0, none⟩ rfl [.int .i64 p.kind, .int .i64 p.age, .int .i64 p.years, .int .i64 p.sum, .int .i64 p.load] HL_px.out _ Try.underlying35 rfl Policy.size ?_))
    clear HL_bx HL_px
    generalize ((w.alloc (.cells #[.int .i64 b.first, .slice A n cap, .int .i64 b.rate] 28)).alloc (.cells #[.int .i64 p.kind, .int .i64 p.age, .int .i64 p.years, .int .i64 p.sum, .int .i64 p.load] 35)) = v0 at HB HH HT ⊢
    generalize w.heap.size + 1 = g0_1 at HH ⊢
    generalize w.heap.size = g0_0 at HH ⊢
    refine (spec_l11Code_any b A n cap p k _ HT.out hp hk).mono ?_
    rintro e w1 ⟨rfl, hb⟩
    replace HB := Lib.hid (below_all HB.out hb)
    replace HT := Lib.hid (HT.out.past hb)
    replace HH := Lib.hid (HH.out.past hb)
    clear hb
    clear h0
    generalize hc : resCode b p k = c at hz Q ⊢
    have hcc : (c == 0) = false := by simpa [bne] using hz
    go_wp2
    go_ret2
    exact ⟨by rw [Q.out]; rfl, HB.out⟩
set_option maxRecDepth 20000 in
set_option maxHeartbeats 8000000 in
theorem impl_reserveList_any (b : Bas) (A : Option Addr) (n cap : Nat) (p : Policy) (w : World) (hB : BasT w A n cap b) (hpb : polB b p = true) :
    Calls Try.prog 75 #[.agg #[.int .i64 b.first, .slice A n cap, .int .i64 b.rate], .agg p.row.toArray] w fun e w' => ∃ A' c', e = .returned (.tuple #[.slice A' (rlN b p) c', .bool (wholeTo b p (rlN b p))]) ∧ Res w.heap.size w' 2 1 A' (rlN b p) c' (intRows (rlTo b p (rlN b p))) ∧ Below w.heap.size w w' := by
  unfold Policy.row
  obtain ⟨i0, hi0, hz0, hz1, hz2⟩ := info_parts Int64.info
  have HI := Lib.hid (And.intro hi0 (And.intro hz0 (And.intro hz1 hz2))); clear hi0 hz0 hz1 hz2
  have HB := Lib.hid (Below.refl w.heap.size w)
  have HH := Lib.hid (Held.nil w)
  have HT := Lib.hid hB; clear hB
  obtain ⟨hb, hr0, hr1⟩ := box2 (w := w) (tx := 28) (ty := 35) (X := [.int .i64 b.first, .slice A n cap, .int .i64 b.rate]) (Y := [.int .i64 p.kind, .int .i64 p.age, .int .i64 p.years, .int .i64 p.sum, .int .i64 p.load])
  replace HB := Lib.hid (below_all HB.out hb)
  replace HT := Lib.hid (HT.out.past hb)
  replace HH := Lib.hid (((HH.out.past hb).cons hr0).cons hr1)
  clear hb hr0 hr1
  have HPB := Lib.hid hpb
  have HPO := Lib.hid (pol_ok hpb); clear hpb
  obtain ⟨hn0, hn1, hn2⟩ := rlN_cast HPO.out
  have HNC := Lib.hid hn0; clear hn0
  have hdb := dur_small HPO.out
  go_enter Try.func75, Try.ntmps75
  have p2 : ((w.alloc (.cells #[.int .i64 b.first, .slice A n cap, .int .i64 b.rate] 28)).alloc (.cells #[.int .i64 p.kind, .int .i64 p.age, .int .i64 p.years, .int .i64 p.sum, .int .i64 p.load] 35)).cell? ⟨w.heap.size, 2, none⟩ = some (.int .i64 b.rate) := Rd.bcell (HH.out.get 1 rfl) 2 rfl
  have HL_tx := Lib.hid (Rd.boxT (HH.out.get 1 rfl))
  go_wp2_with (refine wpList_load_agg rfl 26 _ rfl ⟨w.heap.size, 0, none⟩ rfl [.int .i64 b.first, .slice A n cap] HL_tx.out _ Try.underlying26 rfl Tab.size ?_)
  clear HL_tx
  generalize ((w.alloc (.cells #[.int .i64 b.first, .slice A n cap, .int .i64 b.rate] 28)).alloc (.cells #[.int .i64 p.kind, .int .i64 p.age, .int .i64 p.years, .int .i64 p.sum, .int .i64 p.load] 35)) = v0 at HB HH HT ⊢
  generalize w.heap.size + 1 = g0_1 at HH ⊢
  generalize w.heap.size = g0_0 at HH ⊢
  clear p2
  refine (impl_columnsOf_any b.first A n cap b.lives b.rate _ HT.out.lives HPO.out.tab ⟨HPO.out.rate0, HPO.out.rate1⟩).mono ?_
  rintro e w1 ⟨gL, rfl, hL, hb⟩
  replace HB := Lib.hid (below_all HB.out hb)
  replace HT := Lib.hid (HT.out.past hb)
  replace HH := Lib.hid ((HH.out.past hb).cons hL)
  clear hb
  clear hL
  have HH1 := HH
  have HT1 := HT
  have HB1 := HB
  have hbz : Below w1.heap.size w1 (w1.alloc (.cells #[] 2)) := (Below.refl _ w1).alloc (Nat.le_refl _) _
  have HR := Lib.hid (Res.zero_at (w := w1) (B := w1.heap.size) (t := 2) (sz := 1) (g := w1.heap.size) (Nat.le_refl _) rfl)
  have HW := Lib.hid hbz
  replace HT := Lib.hid (HT.out.past hbz)
  replace HH := Lib.hid (HH.out.past hbz)
  replace HB := Lib.hid (HB.out.trans (hbz.mono HB.out.size)); clear hbz
  have HL_bx := Lib.hid (Rd.box (HH.out.get 2 rfl))
  have HL_px := Lib.hid (Rd.box (HH.out.get 1 rfl))
  go_wp2_with (first | (refine wpList_load_agg rfl 28 _ rfl ⟨g0_0, 0, none⟩ rfl [.int .i64 b.first, .slice A n cap, .int .i64 b.rate] HL_bx.out _ Try.underlying28 rfl Bas.size ?_) | (refine wpList_load_agg rfl 35 _ rfl ⟨g0_1, 0, none⟩ rfl [.int .i64 p.kind, .int .i64 p.age, .int .i64 p.years, .int .i64 p.sum, .int .i64 p.load] HL_px.out _ Try.underlying35 rfl Policy.size ?_))
  clear HL_bx HL_px
  generalize hwq : w1.alloc (.cells #[] 2) = w2 at HB HH HT HR HW ⊢
  clear hwq
  refine (impl_netPremium_any b A n cap p _ HT.out HPB.out).mono ?_
  rintro e w3 ⟨rfl, hb⟩
  replace HR := Lib.hid (HR.out.past hb)
  replace HW := Lib.hid (HW.out.trans (hb.mono HW.out.size))
  replace HB := Lib.hid (below_all HB.out hb)
  replace HT := Lib.hid (HT.out.past hb)
  replace HH := Lib.hid (HH.out.past hb)
  clear hb
  have HL_bx := Lib.hid (Rd.box (HH.out.get 2 rfl))
  have HL_px := Lib.hid (Rd.box (HH.out.get 1 rfl))
  go_wp2_with (first | (refine wpList_load_agg rfl 28 _ rfl ⟨g0_0, 0, none⟩ rfl [.int .i64 b.first, .slice A n cap, .int .i64 b.rate] HL_bx.out _ Try.underlying28 rfl Bas.size ?_) | (refine wpList_load_agg rfl 35 _ rfl ⟨g0_1, 0, none⟩ rfl [.int .i64 p.kind, .int .i64 p.age, .int .i64 p.years, .int .i64 p.sum, .int .i64 p.load] HL_px.out _ Try.underlying35 rfl Policy.size ?_))
  clear HL_bx HL_px
  refine (impl_durationOf_any b A n cap p _ HT.out HPO.out).mono ?_
  rintro e w4 ⟨rfl, hb⟩
  replace HR := Lib.hid (HR.out.past hb)
  replace HW := Lib.hid (HW.out.trans (hb.mono HW.out.size))
  replace HB := Lib.hid (below_all HB.out hb)
  replace HT := Lib.hid (HT.out.past hb)
  replace HH := Lib.hid (HH.out.past hb)
  clear hb
  go_wp2
  go_loopw [7, 8, 24] (fun o h i wr => ∃ (k : Nat) (ki : Int) (A' : Option Addr) (c' : Nat), k ≤ rlN b p ∧ ki = (k : Int) ∧ i = .int .i64 ki ∧ o = .slice A' k c' ∧ h = .bool (wholeTo b p k) ∧ Res w1.heap.size wr 2 1 A' k c' (intRows (rlTo b p k)) ∧ Below w1.heap.size w1 wr) (fun _ _ i _ => rlN b p - (intOf i).toNat)
  case atStart => exact ⟨0, 0, _, _, by omega, rfl, rfl, rfl, rfl, HR.out, HW.out⟩
  case round =>
    clear HR HW HB HH HT
    obtain ⟨k, ki, A', c', hk, hki, rfl, rfl, rfl, hR, hb⟩ := hrel
    have HKI := Lib.hid hki; clear hki
    have HR := Lib.hid hR; clear hR
    have HW := Lib.hid hb
    have HH := Lib.hid (HH1.out.past hb)
    have HT := Lib.hid (HT1.out.past hb)
    have HB := Lib.hid (HB1.out.trans (hb.mono HB1.out.size))
    clear hb
    by_cases hlt : k < rlN b p
    · have hkd : ki < durP b p := by have := HNC.out; have := HKI.out; omega
      have hk0 : 0 ≤ ki := by have := HKI.out; omega
      have hk63 : (k : Int) < 1048576 := by omega
      have HE := Lib.hid (rlTo_succ b p k)
      have HPK := Lib.hid (show 0 ≤ ki ∧ ki ≤ durP b p - 1 from ⟨by omega, by omega⟩)
      obtain ⟨T, hT⟩ : ∃ T, T = partT b p ki := ⟨_, rfl⟩
      obtain ⟨V, hV⟩ : ∃ V, V = partB b p ki := ⟨_, rfl⟩
      obtain ⟨D, hD⟩ : ∃ D, D = partD b p ki := ⟨_, rfl⟩
      have HTV := Lib.hid (And.intro hT (And.intro hV hD))
      have HL_bx := Lib.hid (Rd.box (HH.out.get 2 rfl))
      have HL_px := Lib.hid (Rd.box (HH.out.get 1 rfl))
      go_wp2_with (first | (refine wpList_load_agg rfl 28 _ rfl ⟨g0_0, 0, none⟩ rfl [.int .i64 b.first, .slice A n cap, .int .i64 b.rate] HL_bx.out _ Try.underlying28 rfl Bas.size ?_) | (refine wpList_load_agg rfl 35 _ rfl ⟨g0_1, 0, none⟩ rfl [.int .i64 p.kind, .int .i64 p.age, .int .i64 p.years, .int .i64 p.sum, .int .i64 p.load] HL_px.out _ Try.underlying35 rfl Policy.size ?_))
      clear HL_bx HL_px
      refine (impl_partsAt_any b A n cap p (some ⟨gL, 0, none⟩) _ ki _ HT.out HPO.out HPK.out (HH.out.get 0 rfl)).mono ?_
      rw [← hT, ← hV, ← hD]
      rintro e w5 ⟨rfl, hb⟩
      replace HR := Lib.hid (HR.out.past hb)
      replace HW := Lib.hid (HW.out.trans (hb.mono HW.out.size))
      replace HB := Lib.hid (below_all HB.out hb)
      replace HT := Lib.hid (HT.out.past hb)
      replace HH := Lib.hid (HH.out.past hb)
      clear hb
      clear hT hV hD
      obtain ⟨hb, hr0⟩ := box1 (w := w5) (tx := 90) (X := [.int .i64 T, .int .i64 V, .int .i64 D])
      replace HB := Lib.hid (below_all HB.out hb)
      replace HT := Lib.hid (HT.out.past hb)
      replace HH := Lib.hid ((HH.out.past hb).cons hr0)
      clear hb hr0
      have hba : Below w5.heap.size w5 (w5.alloc (.cells #[.int .i64 T, .int .i64 V, .int .i64 D] 90)) := (Below.refl _ w5).alloc (Nat.le_refl _) _
      replace HR := Lib.hid (HR.out.past hba)
      replace HW := Lib.hid (HW.out.trans (hba.mono HW.out.size)); clear hba
      by_cases hd : D = 0
      · skip
        have hdz : (D == 0) = true := by simp [hd]
        have hd2 : partD b p (k : Int) = 0 := by rw [← HKI.out, ← HTV.out.2.2]; exact hd
        have HZ := Lib.hid (wholeTo_zero hd2)
        have HV := Lib.hid (show rlAt b p k = -1 from if_pos hd2)
        clear hd hd2
        go_upto_region 7 with fail
        generalize (w5.alloc (.cells #[.int .i64 T, .int .i64 V, .int .i64 D] 90)) = v1 at HB HH HT HR HW ⊢
        generalize w5.heap.size = g1_0 at HH ⊢
        have p0 : v1.cell? ⟨g1_0, 0, none⟩ = some (.int .i64 T) := Rd.bcell (HH.out.get 0 rfl) 0 rfl
        have p1 : v1.cell? ⟨g1_0, 1, none⟩ = some (.int .i64 V) := Rd.bcell (HH.out.get 0 rfl) 1 rfl
        have p2 : v1.cell? ⟨g1_0, 2, none⟩ = some (.int .i64 D) := Rd.bcell (HH.out.get 0 rfl) 2 rfl
        have hsx : w1.heap.size ≤ v1.heap.size := HW.out.size
        go_wp2_with (at_builtin; refine wpList_append_row v1 rfl (.tmp 35) (.tmp 36) 24 rfl (w1.heap.size) 2 i0 _ 1 8 Try.underlying24 HI.out.1 HI.out.2.1 HI.out.2.2.1 HI.out.2.2.2 rfl (by decide) (by decide) A' k c' _ rfl HR.out [.int .i64 (-1)] _ rfl rfl (by simp [Value.oneCell']) (by omega) hsx ?_)
        intro B2 c2 w9 hR9 hb9
        have HR9 := Lib.hid hR9; clear hR9
        have hbW := HW.out.trans hb9
        go_wp2
        go_roundw
        case rel => exact ⟨k + 1, ki + 1, B2, c2, by omega, by have := HKI.out; omega, by go_num, rfl, by rw [HZ.out], by rw [HE.out, intRows_snoc, HV.out]; exact HR9.out, hbW⟩
        case measure => have hkz := HKI.out; simp [intOf]; omega
      · skip
        have hdz : (D == 0) = false := by simp [hd]
        have hd2 : ¬ partD b p (k : Int) = 0 := by rw [← HKI.out, ← HTV.out.2.2]; exact hd
        have HZ := Lib.hid (wholeTo_pos hd2)
        have HV := Lib.hid (show rlAt b p k = roundP (fwdP p.sum T (netP b p) V D) by rw [HTV.out.1, HTV.out.2.1, HTV.out.2.2, HKI.out]; exact if_neg hd2)
        have HY := Lib.hid (year_at HPO.out hlt hd2)
        have HKO := Lib.hid (show PartOk p.sum T (netP b p) V D by rw [HTV.out.1, HTV.out.2.1, HTV.out.2.2, HKI.out]; exact part_ok HY.out (net_bound HY.out.toPolOk))
        clear hd hd2
        have r2 : (w5.alloc (.cells #[.int .i64 T, .int .i64 V, .int .i64 D] 90)).cell? ⟨w5.heap.size, 2, none⟩ = some (.int .i64 D) := Rd.bcell (HH.out.get 0 rfl) 2 rfl
        have r3 : (w5.alloc (.cells #[.int .i64 T, .int .i64 V, .int .i64 D] 90)).cell? ⟨g0_1, 3, none⟩ = some (.int .i64 p.sum) := Rd.bcell (HH.out.get 2 rfl) 3 rfl
        have HL_rp := Lib.hid (Rd.box (HH.out.get 0 rfl))
        go_wp2_with (refine wpList_load_agg rfl 90 _ rfl ⟨w5.heap.size, 0, none⟩ rfl [.int .i64 T, .int .i64 V, .int .i64 D] HL_rp.out _ Try.underlying90 rfl ReserveParts.size ?_)
        clear HL_rp
        generalize (w5.alloc (.cells #[.int .i64 T, .int .i64 V, .int .i64 D] 90)) = v1 at HB HH HT HR HW ⊢
        generalize w5.heap.size = g1_0 at HH ⊢
        clear r2 r3
        refine (impl_reserveParts_rounded_any p.sum T (netP b p) V D _ HKO.out).mono ?_
        rintro e w6 ⟨rfl, hb⟩
        replace HR := Lib.hid (HR.out.past hb)
        replace HW := Lib.hid (HW.out.trans (hb.mono HW.out.size))
        replace HB := Lib.hid (below_all HB.out hb)
        replace HT := Lib.hid (HT.out.past hb)
        replace HH := Lib.hid (HH.out.past hb)
        clear hb
        have hsx : w1.heap.size ≤ w6.heap.size := HW.out.size
        go_wp2_with (at_builtin; refine wpList_append_row w6 rfl (.tmp 38) (.tmp 44) 24 rfl (w1.heap.size) 2 i0 _ 1 8 Try.underlying24 HI.out.1 HI.out.2.1 HI.out.2.2.1 HI.out.2.2.2 rfl (by decide) (by decide) A' k c' _ rfl HR.out [.int .i64 (roundP (fwdP p.sum T (netP b p) V D))] _ rfl rfl (by simp [Value.oneCell']) (by omega) hsx ?_)
        intro B2 c2 w9 hR9 hb9
        have HR9 := Lib.hid hR9; clear hR9
        have hbW := HW.out.trans hb9
        go_wp2
        go_roundw
        case rel => exact ⟨k + 1, ki + 1, B2, c2, by omega, by have := HKI.out; omega, by go_num, rfl, by rw [HZ.out], by rw [HE.out, intRows_snoc, HV.out]; exact HR9.out, hbW⟩
        case measure => have hkz := HKI.out; simp [intOf]; omega
    · have hkn : k = rlN b p := by omega
      have hnd : ¬ ki < durP b p := by have := HNC.out; have := HKI.out; omega
      subst hkn
      go_wp2
      go_ret2
      exact ⟨A', c', rfl, HR.out.more HB1.out.size, HB.out⟩
end Go.Proofs.Ytbjdbpdgacfcpaa
end
