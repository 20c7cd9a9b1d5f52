/- Parts of a proof, one after another: Lv3. No condition. -/
import Derived.Test.YtbjdbpdgacfcpaaK16
import Derived.Test.YtbjdbpdgacfcpaaK17
/- What leaving gives: the reference (printed by lv.py). -/
section
namespace Go.Proofs.Ytbjdbpdgacfcpaa
open Go.RowKit Go.BigFrame

set_option maxRecDepth 20000 in
set_option maxHeartbeats 8000000 in
theorem spec_l12Code_any (b : Bas) (A : Option Addr) (n cap : Nat) (p : Policy) (k : Int) (w : World) (hB : BasT w A n cap b) (hp : p.fits) (hk : In64 k) :
    Calls Try.prog 89 #[.agg #[.int .i64 b.first, .slice A n cap, .int .i64 b.rate], .agg p.row.toArray, .int .i64 k] w fun e w' => e = .returned (.int .i64 (leavCode b p k)) ∧ Below w.heap.size w w' := by
  unfold Policy.row
  have HB := Lib.hid (Below.refl w.heap.size w)
  have HH := Lib.hid (Held.nil w)
  have HT := Lib.hid hB; clear hB
  obtain ⟨hb, hr0, hr1⟩ := box2 (w := w) (tx := 28) (ty := 35) (X := [.int .i64 b.first, .slice A n cap, .int .i64 b.rate]) (Y := [.int .i64 p.kind, .int .i64 p.age, .int .i64 p.years, .int .i64 p.sum, .int .i64 p.load])
  replace HB := Lib.hid (below_all HB.out hb)
  replace HT := Lib.hid (HT.out.past hb)
  replace HH := Lib.hid (((HH.out.past hb).cons hr0).cons hr1)
  clear hb hr0 hr1
  by_cases h0 : resCode b p k = 0
  · skip
    have H0 := Lib.hid h0; clear h0
    by_cases h2 : k < 2
    · skip
      have Q := Lib.hid (show leavCode b p k = 4 by unfold leavCode; rw [if_pos H0.out, if_pos h2])
      have hkb : decide (k < 2) = true := by simp; omega
      clear h2
      go_enter Try.func89, Try.ntmps89
      have HL_bx := Lib.hid (Rd.box (HH.out.get 1 rfl))
      have HL_px := Lib.hid (Rd.box (HH.out.get 0 rfl))
      go_wp2_with (first | (refine wpList_load_agg rfl 28 _ rfl ⟨w.heap.size, 0, none⟩ rfl [.int .i64 b.first, .slice A n cap, .int .i64 b.rate] HL_bx.out _ Try.underlying28 rfl Bas.size ?_) | (refine wpList_load_agg rfl 35 _ rfl ⟨w.heap.size + 1, 0, none⟩ rfl [.int .i64 p.kind, .int .i64 p.age, .int .i64 p.years, .int .i64 p.sum, .int .i64 p.load] HL_px.out _ Try.underlying35 rfl Policy.size ?_))
      clear HL_bx HL_px
      generalize ((w.alloc (.cells #[.int .i64 b.first, .slice A n cap, .int .i64 b.rate] 28)).alloc (.cells #[.int .i64 p.kind, .int .i64 p.age, .int .i64 p.years, .int .i64 p.sum, .int .i64 p.load] 35)) = v0 at HB HH HT ⊢
      generalize w.heap.size + 1 = g0_1 at HH ⊢
      generalize w.heap.size = g0_0 at HH ⊢
      refine (spec_l11Code_any b A n cap p k _ HT.out hp hk).mono ?_
      rw [H0.out]
      rintro e w1 ⟨rfl, hb⟩
      replace HB := Lib.hid (below_all HB.out hb)
      replace HT := Lib.hid (HT.out.past hb)
      replace HH := Lib.hid (HH.out.past hb)
      clear hb
      go_wp2
      go_ret
      exact ⟨by rw [Q.out]; rfl, HB.out⟩
    · skip
      have Q := Lib.hid (show leavCode b p k = 0 by unfold leavCode; rw [if_pos H0.out, if_neg h2])
      have hkb : decide (k < 2) = false := by simp; omega
      clear h2
      go_enter Try.func89, Try.ntmps89
      have HL_bx := Lib.hid (Rd.box (HH.out.get 1 rfl))
      have HL_px := Lib.hid (Rd.box (HH.out.get 0 rfl))
      go_wp2_with (first | (refine wpList_load_agg rfl 28 _ rfl ⟨w.heap.size, 0, none⟩ rfl [.int .i64 b.first, .slice A n cap, .int .i64 b.rate] HL_bx.out _ Try.underlying28 rfl Bas.size ?_) | (refine wpList_load_agg rfl 35 _ rfl ⟨w.heap.size + 1, 0, none⟩ rfl [.int .i64 p.kind, .int .i64 p.age, .int .i64 p.years, .int .i64 p.sum, .int .i64 p.load] HL_px.out _ Try.underlying35 rfl Policy.size ?_))
      clear HL_bx HL_px
      generalize ((w.alloc (.cells #[.int .i64 b.first, .slice A n cap, .int .i64 b.rate] 28)).alloc (.cells #[.int .i64 p.kind, .int .i64 p.age, .int .i64 p.years, .int .i64 p.sum, .int .i64 p.load] 35)) = v0 at HB HH HT ⊢
      generalize w.heap.size + 1 = g0_1 at HH ⊢
      generalize w.heap.size = g0_0 at HH ⊢
      refine (spec_l11Code_any b A n cap p k _ HT.out hp hk).mono ?_
      rw [H0.out]
      rintro e w1 ⟨rfl, hb⟩
      replace HB := Lib.hid (below_all HB.out hb)
      replace HT := Lib.hid (HT.out.past hb)
      replace HH := Lib.hid (HH.out.past hb)
      clear hb
      go_wp2
      go_ret
      exact ⟨by rw [Q.out]; rfl, HB.out⟩
  · skip
    have Q := Lib.hid (show leavCode b p k = resCode b p k by unfold leavCode; rw [if_neg h0])
    have hz : (resCode b p k == 0) = false := by simpa using h0
    go_enter Try.func89, Try.ntmps89
    have HL_bx := Lib.hid (Rd.box (HH.out.get 1 rfl))
    have HL_px := Lib.hid (Rd.box (HH.out.get 0 rfl))
    go_wp2_with (first | (refine wpList_load_agg rfl 28 _ rfl ⟨w.heap.size, 0, none⟩ rfl [.int .i64 b.first, .slice A n cap, .int .i64 b.rate] HL_bx.out _ Try.underlying28 rfl Bas.size ?_) | (refine wpList_load_agg rfl 35 _ rfl ⟨w.heap.size + 1, 0, none⟩ rfl [.int .i64 p.kind, .int .i64 p.age, .int .i64 p.years, .int .i64 p.sum, .int .i64 p.load] HL_px.out _ Try.underlying35 rfl Policy.size ?_))
    clear HL_bx HL_px
    generalize ((w.alloc (.cells #[.int .i64 b.first, .slice A n cap, .int .i64 b.rate] 28)).alloc (.cells #[.int .i64 p.kind, .int .i64 p.age, .int .i64 p.years, .int .i64 p.sum, .int .i64 p.load] 35)) = v0 at HB HH HT ⊢
    generalize w.heap.size + 1 = g0_1 at HH ⊢
    generalize w.heap.size = g0_0 at HH ⊢
    refine (spec_l11Code_any b A n cap p k _ HT.out hp hk).mono ?_
    rintro e w1 ⟨rfl, hb⟩
    replace HB := Lib.hid (below_all HB.out hb)
    replace HT := Lib.hid (HT.out.past hb)
    replace HH := Lib.hid (HH.out.past hb)
    clear hb
    clear h0
    go_wp2
    go_ret
    exact ⟨by rw [Q.out]; rfl, HB.out⟩
set_option maxRecDepth 20000 in
set_option maxHeartbeats 8000000 in
theorem spec_l12Value_any (b : Bas) (A : Option Addr) (n cap : Nat) (p : Policy) (k : Int) (w : World) (hB : BasT w A n cap b) (Y : YearOk b p k) :
    Calls Try.prog 92 #[.agg #[.int .i64 b.first, .slice A n cap, .int .i64 b.rate], .agg p.row.toArray, .int .i64 k] w fun e w' => e = .returned (.int .i64 (valV b p k)) ∧ Below w.heap.size w w' := by
  unfold Policy.row
  have HB := Lib.hid (Below.refl w.heap.size w)
  have HH := Lib.hid (Held.nil w)
  have HT := Lib.hid hB; clear hB
  obtain ⟨hb, hr0, hr1⟩ := box2 (w := w) (tx := 28) (ty := 35) (X := [.int .i64 b.first, .slice A n cap, .int .i64 b.rate]) (Y := [.int .i64 p.kind, .int .i64 p.age, .int .i64 p.years, .int .i64 p.sum, .int .i64 p.load])
  replace HB := Lib.hid (below_all HB.out hb)
  replace HT := Lib.hid (HT.out.past hb)
  replace HH := Lib.hid (((HH.out.past hb).cons hr0).cons hr1)
  clear hb hr0 hr1
  have HY := Lib.hid Y
  obtain ⟨⟨r0, r1⟩, _, _⟩ := val_bound Y
  clear Y
  have Q := Lib.hid (show valV b p k = resAt b p k * 900 / 1000 from rfl)
  go_enter Try.func92, Try.ntmps92
  have HL_bx := Lib.hid (Rd.box (HH.out.get 1 rfl))
  have HL_px := Lib.hid (Rd.box (HH.out.get 0 rfl))
  go_wp2_with (first | (refine wpList_load_agg rfl 28 _ rfl ⟨w.heap.size, 0, none⟩ rfl [.int .i64 b.first, .slice A n cap, .int .i64 b.rate] HL_bx.out _ Try.underlying28 rfl Bas.size ?_) | (refine wpList_load_agg rfl 35 _ rfl ⟨w.heap.size + 1, 0, none⟩ rfl [.int .i64 p.kind, .int .i64 p.age, .int .i64 p.years, .int .i64 p.sum, .int .i64 p.load] HL_px.out _ Try.underlying35 rfl Policy.size ?_))
  clear HL_bx HL_px
  generalize ((w.alloc (.cells #[.int .i64 b.first, .slice A n cap, .int .i64 b.rate] 28)).alloc (.cells #[.int .i64 p.kind, .int .i64 p.age, .int .i64 p.years, .int .i64 p.sum, .int .i64 p.load] 35)) = v0 at HB HH HT ⊢
  generalize w.heap.size + 1 = g0_1 at HH ⊢
  generalize w.heap.size = g0_0 at HH ⊢
  refine (spec_l11At_any b A n cap p k _ HT.out HY.out).mono ?_
  rintro e w1 ⟨rfl, hb⟩
  replace HB := Lib.hid (below_all HB.out hb)
  replace HT := Lib.hid (HT.out.past hb)
  replace HH := Lib.hid (HH.out.past hb)
  clear hb
  go_wp2
  go_ret
  exact ⟨by rw [Q.out]; rfl, HB.out⟩
set_option maxRecDepth 20000 in
set_option maxHeartbeats 8000000 in
theorem spec_SurrenderValue_any (b : Bas) (A : Option Addr) (n cap : Nat) (p : Policy) (k : Int) (w : World) (hB : BasT w A n cap b) (hp : p.fits) (hk : In64 k) :
    Calls Try.prog 36 #[.agg #[.int .i64 b.first, .slice A n cap, .int .i64 b.rate], .agg p.row.toArray, .int .i64 k] w fun e w' => e = .returned (.tuple #[.int .i64 (surP b p k).1, .int .i64 (surP b p k).2]) ∧ Below w.heap.size w w' := by
  unfold Policy.row
  have HB := Lib.hid (Below.refl w.heap.size w)
  have HH := Lib.hid (Held.nil w)
  have HT := Lib.hid hB; clear hB
  obtain ⟨hb, hr0, hr1⟩ := box2 (w := w) (tx := 28) (ty := 35) (X := [.int .i64 b.first, .slice A n cap, .int .i64 b.rate]) (Y := [.int .i64 p.kind, .int .i64 p.age, .int .i64 p.years, .int .i64 p.sum, .int .i64 p.load])
  replace HB := Lib.hid (below_all HB.out hb)
  replace HT := Lib.hid (HT.out.past hb)
  replace HH := Lib.hid (((HH.out.past hb).cons hr0).cons hr1)
  clear hb hr0 hr1
  by_cases h0 : leavCode b p k = 0
  · skip
    have Q := Lib.hid (show surP b p k = (valV b p k, 0) by unfold surP; rw [if_pos h0])
    have HY := Lib.hid (year_ok (leav_ok h0).1)
    obtain ⟨⟨r0, r1⟩, v0, v1⟩ := val_bound HY.out
    have hpo := part_ok HY.out (net_bound HY.out.toPolOk)
    have t0 := hpo.t0; have t1 := hpo.t1; have t2 := hpo.d0; have t3 := hpo.d1; have s1 := hpo.s1; have s0 := HY.out.sum0
    clear hpo
    have H0 := Lib.hid h0; clear h0
    go_enter Try.func36, Try.ntmps36
    have HL_bx := Lib.hid (Rd.box (HH.out.get 1 rfl))
    have HL_px := Lib.hid (Rd.box (HH.out.get 0 rfl))
    go_wp2_with (first | (refine wpList_load_agg rfl 28 _ rfl ⟨w.heap.size, 0, none⟩ rfl [.int .i64 b.first, .slice A n cap, .int .i64 b.rate] HL_bx.out _ Try.underlying28 rfl Bas.size ?_) | (refine wpList_load_agg rfl 35 _ rfl ⟨w.heap.size + 1, 0, none⟩ rfl [.int .i64 p.kind, .int .i64 p.age, .int .i64 p.years, .int .i64 p.sum, .int .i64 p.load] HL_px.out _ Try.underlying35 rfl Policy.size ?_))
    clear HL_bx HL_px
    generalize ((w.alloc (.cells #[.int .i64 b.first, .slice A n cap, .int .i64 b.rate] 28)).alloc (.cells #[.int .i64 p.kind, .int .i64 p.age, .int .i64 p.years, .int .i64 p.sum, .int .i64 p.load] 35)) = v0 at HB HH HT ⊢
    generalize w.heap.size + 1 = g0_1 at HH ⊢
    generalize w.heap.size = g0_0 at HH ⊢
    refine (spec_l12Code_any b A n cap p k _ HT.out hp hk).mono ?_
    rw [H0.out]
    rintro e w1 ⟨rfl, hb⟩
    replace HB := Lib.hid (below_all HB.out hb)
    replace HT := Lib.hid (HT.out.past hb)
    replace HH := Lib.hid (HH.out.past hb)
    clear hb
    have HL_bx := Lib.hid (Rd.box (HH.out.get 1 rfl))
    have HL_px := Lib.hid (Rd.box (HH.out.get 0 rfl))
    go_wp2_with (first | (refine wpList_load_agg rfl 28 _ rfl ⟨g0_0, 0, none⟩ rfl [.int .i64 b.first, .slice A n cap, .int .i64 b.rate] HL_bx.out _ Try.underlying28 rfl Bas.size ?_) | (refine wpList_load_agg rfl 35 _ rfl ⟨g0_1, 0, none⟩ rfl [.int .i64 p.kind, .int .i64 p.age, .int .i64 p.years, .int .i64 p.sum, .int .i64 p.load] HL_px.out _ Try.underlying35 rfl Policy.size ?_))
    clear HL_bx HL_px
    refine (spec_l12Value_any b A n cap p k _ HT.out HY.out).mono ?_
    rintro e w2 ⟨rfl, hb⟩
    replace HB := Lib.hid (below_all HB.out hb)
    replace HT := Lib.hid (HT.out.past hb)
    replace HH := Lib.hid (HH.out.past hb)
    clear hb
    go_wp2
    go_ret2
    exact ⟨by rw [Q.out]; rfl, HB.out⟩
  · skip
    have Q := Lib.hid (show surP b p k = (0, leavCode b p k) by unfold surP; rw [if_neg h0])
    have hz : (leavCode b p k != 0) = true := by simpa [bne] using h0
    go_enter Try.func36, Try.ntmps36
    have HL_bx := Lib.hid (Rd.box (HH.out.get 1 rfl))
    have HL_px := Lib.hid (Rd.box (HH.out.get 0 rfl))
    go_wp2_with (first | (refine wpList_load_agg rfl 28 _ rfl ⟨w.heap.size, 0, none⟩ rfl [.int .i64 b.first, .slice A n cap, .int .i64 b.rate] HL_bx.out _ Try.underlying28 rfl Bas.size ?_) | (refine wpList_load_agg rfl 35 _ rfl ⟨w.heap.size + 1, 0, none⟩ rfl [.int .i64 p.kind, .int .i64 p.age, .int .i64 p.years, .int .i64 p.sum, .int .i64 p.load] HL_px.out _ Try.underlying35 rfl Policy.size ?_))
    clear HL_bx HL_px
    generalize ((w.alloc (.cells #[.int .i64 b.first, .slice A n cap, .int .i64 b.rate] 28)).alloc (.cells #[.int .i64 p.kind, .int .i64 p.age, .int .i64 p.years, .int .i64 p.sum, .int .i64 p.load] 35)) = v0 at HB HH HT ⊢
    generalize w.heap.size + 1 = g0_1 at HH ⊢
    generalize w.heap.size = g0_0 at HH ⊢
    refine (spec_l12Code_any b A n cap p k _ HT.out hp hk).mono ?_
    rintro e w1 ⟨rfl, hb⟩
    replace HB := Lib.hid (below_all HB.out hb)
    replace HT := Lib.hid (HT.out.past hb)
    replace HH := Lib.hid (HH.out.past hb)
    clear hb
    clear h0
    generalize hc : leavCode b p k = c at hz Q ⊢
    clear hc
    have hcc : (c == 0) = false := by simpa [bne] using hz
    go_wp2
    go_ret2
    exact ⟨by rw [Q.out]; rfl, HB.out⟩
set_option maxRecDepth 20000 in
set_option maxHeartbeats 8000000 in
theorem spec_LoanLimit_any (b : Bas) (A : Option Addr) (n cap : Nat) (p : Policy) (k : Int) (w : World) (hB : BasT w A n cap b) (hp : p.fits) (hk : In64 k) :
    Calls Try.prog 40 #[.agg #[.int .i64 b.first, .slice A n cap, .int .i64 b.rate], .agg p.row.toArray, .int .i64 k] w fun e w' => e = .returned (.tuple #[.int .i64 (loanP b p k).1, .int .i64 (loanP b p k).2]) ∧ Below w.heap.size w w' := by
  unfold Policy.row
  have HB := Lib.hid (Below.refl w.heap.size w)
  have HH := Lib.hid (Held.nil w)
  have HT := Lib.hid hB; clear hB
  obtain ⟨hb, hr0, hr1⟩ := box2 (w := w) (tx := 28) (ty := 35) (X := [.int .i64 b.first, .slice A n cap, .int .i64 b.rate]) (Y := [.int .i64 p.kind, .int .i64 p.age, .int .i64 p.years, .int .i64 p.sum, .int .i64 p.load])
  replace HB := Lib.hid (below_all HB.out hb)
  replace HT := Lib.hid (HT.out.past hb)
  replace HH := Lib.hid (((HH.out.past hb).cons hr0).cons hr1)
  clear hb hr0 hr1
  by_cases h0 : leavCode b p k = 0
  · skip
    have Q := Lib.hid (show loanP b p k = (valV b p k * 800 / 1000, 0) by unfold loanP; rw [if_pos h0])
    have HY := Lib.hid (year_ok (leav_ok h0).1)
    obtain ⟨⟨r0, r1⟩, v0, v1⟩ := val_bound HY.out
    have hpo := part_ok HY.out (net_bound HY.out.toPolOk)
    have t0 := hpo.t0; have t1 := hpo.t1; have t2 := hpo.d0; have t3 := hpo.d1; have s1 := hpo.s1; have s0 := HY.out.sum0
    clear hpo
    have H0 := Lib.hid h0; clear h0
    go_enter Try.func40, Try.ntmps40
    have HL_bx := Lib.hid (Rd.box (HH.out.get 1 rfl))
    have HL_px := Lib.hid (Rd.box (HH.out.get 0 rfl))
    go_wp2_with (first | (refine wpList_load_agg rfl 28 _ rfl ⟨w.heap.size, 0, none⟩ rfl [.int .i64 b.first, .slice A n cap, .int .i64 b.rate] HL_bx.out _ Try.underlying28 rfl Bas.size ?_) | (refine wpList_load_agg rfl 35 _ rfl ⟨w.heap.size + 1, 0, none⟩ rfl [.int .i64 p.kind, .int .i64 p.age, .int .i64 p.years, .int .i64 p.sum, .int .i64 p.load] HL_px.out _ Try.underlying35 rfl Policy.size ?_))
    clear HL_bx HL_px
    generalize ((w.alloc (.cells #[.int .i64 b.first, .slice A n cap, .int .i64 b.rate] 28)).alloc (.cells #[.int .i64 p.kind, .int .i64 p.age, .int .i64 p.years, .int .i64 p.sum, .int .i64 p.load] 35)) = v0 at HB HH HT ⊢
    generalize w.heap.size + 1 = g0_1 at HH ⊢
    generalize w.heap.size = g0_0 at HH ⊢
    refine (spec_l12Code_any b A n cap p k _ HT.out hp hk).mono ?_
    rw [H0.out]
    rintro e w1 ⟨rfl, hb⟩
    replace HB := Lib.hid (below_all HB.out hb)
    replace HT := Lib.hid (HT.out.past hb)
    replace HH := Lib.hid (HH.out.past hb)
    clear hb
    have HL_bx := Lib.hid (Rd.box (HH.out.get 1 rfl))
    have HL_px := Lib.hid (Rd.box (HH.out.get 0 rfl))
    go_wp2_with (first | (refine wpList_load_agg rfl 28 _ rfl ⟨g0_0, 0, none⟩ rfl [.int .i64 b.first, .slice A n cap, .int .i64 b.rate] HL_bx.out _ Try.underlying28 rfl Bas.size ?_) | (refine wpList_load_agg rfl 35 _ rfl ⟨g0_1, 0, none⟩ rfl [.int .i64 p.kind, .int .i64 p.age, .int .i64 p.years, .int .i64 p.sum, .int .i64 p.load] HL_px.out _ Try.underlying35 rfl Policy.size ?_))
    clear HL_bx HL_px
    refine (spec_l12Value_any b A n cap p k _ HT.out HY.out).mono ?_
    rintro e w2 ⟨rfl, hb⟩
    replace HB := Lib.hid (below_all HB.out hb)
    replace HT := Lib.hid (HT.out.past hb)
    replace HH := Lib.hid (HH.out.past hb)
    clear hb
    go_wp2
    go_ret2
    exact ⟨by rw [Q.out]; rfl, HB.out⟩
  · skip
    have Q := Lib.hid (show loanP b p k = (0, leavCode b p k) by unfold loanP; rw [if_neg h0])
    have hz : (leavCode b p k != 0) = true := by simpa [bne] using h0
    go_enter Try.func40, Try.ntmps40
    have HL_bx := Lib.hid (Rd.box (HH.out.get 1 rfl))
    have HL_px := Lib.hid (Rd.box (HH.out.get 0 rfl))
    go_wp2_with (first | (refine wpList_load_agg rfl 28 _ rfl ⟨w.heap.size, 0, none⟩ rfl [.int .i64 b.first, .slice A n cap, .int .i64 b.rate] HL_bx.out _ Try.underlying28 rfl Bas.size ?_) | (refine wpList_load_agg rfl 35 _ rfl ⟨w.heap.size + 1, 0, none⟩ rfl [.int .i64 p.kind, .int .i64 p.age, .int .i64 p.years, .int .i64 p.sum, .int .i64 p.load] HL_px.out _ Try.underlying35 rfl Policy.size ?_))
    clear HL_bx HL_px
    generalize ((w.alloc (.cells #[.int .i64 b.first, .slice A n cap, .int .i64 b.rate] 28)).alloc (.cells #[.int .i64 p.kind, .int .i64 p.age, .int .i64 p.years, .int .i64 p.sum, .int .i64 p.load] 35)) = v0 at HB HH HT ⊢
    generalize w.heap.size + 1 = g0_1 at HH ⊢
    generalize w.heap.size = g0_0 at HH ⊢
    refine (spec_l12Code_any b A n cap p k _ HT.out hp hk).mono ?_
    rintro e w1 ⟨rfl, hb⟩
    replace HB := Lib.hid (below_all HB.out hb)
    replace HT := Lib.hid (HT.out.past hb)
    replace HH := Lib.hid (HH.out.past hb)
    clear hb
    clear h0
    generalize hc : leavCode b p k = c at hz Q ⊢
    clear hc
    have hcc : (c == 0) = false := by simpa [bne] using hz
    go_wp2
    go_ret2
    exact ⟨by rw [Q.out]; rfl, HB.out⟩
set_option maxRecDepth 20000 in
set_option maxHeartbeats 8000000 in
theorem spec_LeavingLoss_any (b : Bas) (A : Option Addr) (n cap : Nat) (p : Policy) (k : Int) (w : World) (hB : BasT w A n cap b) (hp : p.fits) (hk : In64 k) :
    Calls Try.prog 38 #[.agg #[.int .i64 b.first, .slice A n cap, .int .i64 b.rate], .agg p.row.toArray, .int .i64 k] w fun e w' => e = .returned (.tuple #[.int .i64 (lossP b p k).1, .int .i64 (lossP b p k).2]) ∧ Below w.heap.size w w' := by
  unfold Policy.row
  have HB := Lib.hid (Below.refl w.heap.size w)
  have HH := Lib.hid (Held.nil w)
  have HT := Lib.hid hB; clear hB
  obtain ⟨hb, hr0, hr1⟩ := box2 (w := w) (tx := 28) (ty := 35) (X := [.int .i64 b.first, .slice A n cap, .int .i64 b.rate]) (Y := [.int .i64 p.kind, .int .i64 p.age, .int .i64 p.years, .int .i64 p.sum, .int .i64 p.load])
  replace HB := Lib.hid (below_all HB.out hb)
  replace HT := Lib.hid (HT.out.past hb)
  replace HH := Lib.hid (((HH.out.past hb).cons hr0).cons hr1)
  clear hb hr0 hr1
  by_cases h0 : leavCode b p k = 0
  · skip
    have Q := Lib.hid (show lossP b p k = (resAt b p k - valV b p k, 0) by unfold lossP; rw [if_pos h0])
    have HY := Lib.hid (year_ok (leav_ok h0).1)
    obtain ⟨⟨r0, r1⟩, v0, v1⟩ := val_bound HY.out
    have hpo := part_ok HY.out (net_bound HY.out.toPolOk)
    have t0 := hpo.t0; have t1 := hpo.t1; have t2 := hpo.d0; have t3 := hpo.d1; have s1 := hpo.s1; have s0 := HY.out.sum0
    clear hpo
    have H0 := Lib.hid h0; clear h0
    go_enter Try.func38, Try.ntmps38
    have HL_bx := Lib.hid (Rd.box (HH.out.get 1 rfl))
    have HL_px := Lib.hid (Rd.box (HH.out.get 0 rfl))
    go_wp2_with (first | (refine wpList_load_agg rfl 28 _ rfl ⟨w.heap.size, 0, none⟩ rfl [.int .i64 b.first, .slice A n cap, .int .i64 b.rate] HL_bx.out _ Try.underlying28 rfl Bas.size ?_) | (refine wpList_load_agg rfl 35 _ rfl ⟨w.heap.size + 1, 0, none⟩ rfl [.int .i64 p.kind, .int .i64 p.age, .int .i64 p.years, .int .i64 p.sum, .int .i64 p.load] HL_px.out _ Try.underlying35 rfl Policy.size ?_))
    clear HL_bx HL_px
    generalize ((w.alloc (.cells #[.int .i64 b.first, .slice A n cap, .int .i64 b.rate] 28)).alloc (.cells #[.int .i64 p.kind, .int .i64 p.age, .int .i64 p.years, .int .i64 p.sum, .int .i64 p.load] 35)) = v0 at HB HH HT ⊢
    generalize w.heap.size + 1 = g0_1 at HH ⊢
    generalize w.heap.size = g0_0 at HH ⊢
    refine (spec_l12Code_any b A n cap p k _ HT.out hp hk).mono ?_
    rw [H0.out]
    rintro e w1 ⟨rfl, hb⟩
    replace HB := Lib.hid (below_all HB.out hb)
    replace HT := Lib.hid (HT.out.past hb)
    replace HH := Lib.hid (HH.out.past hb)
    clear hb
    go_wp2
    have hQ_bx := Lib.hid (Past.cells' (Rd.box (HH.out.get 1 rfl)))
    have hQ_px := Lib.hid (Past.cells' (Rd.box (HH.out.get 0 rfl)))
    refine wp_region_past (by kernel_rfl) (by kernel_rfl) ?_
    repeat (first | (go_big_quiet_want; (first | (first | (refine quiet_load_agg 28 _ rfl ⟨g0_0, 0, none⟩ rfl [.int .i64 b.first, .slice A n cap, .int .i64 b.rate] hQ_bx.out _ Try.underlying28 rfl Bas.size ?_) | (refine quiet_load_agg 35 _ rfl ⟨g0_1, 0, none⟩ rfl [.int .i64 p.kind, .int .i64 p.age, .int .i64 p.years, .int .i64 p.sum, .int .i64 p.load] hQ_px.out _ Try.underlying35 rfl Policy.size ?_))); go_simp; go_big_quiet_on) | go_big_quiet_step ((first | (go_at_call 79; exact past_call (spec_l11At_any b A n cap p k _ (HT.out.at_past _) HY.out)) | (go_at_call 92; exact past_call (spec_l12Value_any b A n cap p k _ (HT.out.at_past _) HY.out)))))
    refine wpQuiet_nil ?_
    rintro _ ⟨y, rfl⟩
    have hb := y.2
    replace HB := Lib.hid (below_all HB.out hb)
    replace HT := Lib.hid (HT.out.past hb)
    replace HH := Lib.hid (HH.out.past hb)
    clear hb
    clear hQ_bx hQ_px
    go_wp2
    go_ret2
    exact ⟨by rw [Q.out]; rfl, HB.out⟩
  · skip
    have Q := Lib.hid (show lossP b p k = (0, leavCode b p k) by unfold lossP; rw [if_neg h0])
    have hz : (leavCode b p k != 0) = true := by simpa [bne] using h0
    go_enter Try.func38, Try.ntmps38
    have HL_bx := Lib.hid (Rd.box (HH.out.get 1 rfl))
    have HL_px := Lib.hid (Rd.box (HH.out.get 0 rfl))
    go_wp2_with (first | (refine wpList_load_agg rfl 28 _ rfl ⟨w.heap.size, 0, none⟩ rfl [.int .i64 b.first, .slice A n cap, .int .i64 b.rate] HL_bx.out _ Try.underlying28 rfl Bas.size ?_) | (refine wpList_load_agg rfl 35 _ rfl ⟨w.heap.size + 1, 0, none⟩ rfl [.int .i64 p.kind, .int .i64 p.age, .int .i64 p.years, .int .i64 p.sum, .int .i64 p.load] HL_px.out _ Try.underlying35 rfl Policy.size ?_))
    clear HL_bx HL_px
    generalize ((w.alloc (.cells #[.int .i64 b.first, .slice A n cap, .int .i64 b.rate] 28)).alloc (.cells #[.int .i64 p.kind, .int .i64 p.age, .int .i64 p.years, .int .i64 p.sum, .int .i64 p.load] 35)) = v0 at HB HH HT ⊢
    generalize w.heap.size + 1 = g0_1 at HH ⊢
    generalize w.heap.size = g0_0 at HH ⊢
    refine (spec_l12Code_any b A n cap p k _ HT.out hp hk).mono ?_
    rintro e w1 ⟨rfl, hb⟩
    replace HB := Lib.hid (below_all HB.out hb)
    replace HT := Lib.hid (HT.out.past hb)
    replace HH := Lib.hid (HH.out.past hb)
    clear hb
    clear h0
    generalize hc : leavCode b p k = c at hz Q ⊢
    clear hc
    have hcc : (c == 0) = false := by simpa [bne] using hz
    go_wp2
    go_ret2
    exact ⟨by rw [Q.out]; rfl, HB.out⟩
set_option maxRecDepth 20000 in
set_option maxHeartbeats 8000000 in
theorem spec_PaidUpSum_any (b : Bas) (A : Option Addr) (n cap : Nat) (p : Policy) (k : Int) (w : World) (hB : BasT w A n cap b) (hp : p.fits) (hk : In64 k) :
    Calls Try.prog 34 #[.agg #[.int .i64 b.first, .slice A n cap, .int .i64 b.rate], .agg p.row.toArray, .int .i64 k] w fun e w' => e = .returned (.tuple #[.int .i64 (paidUpP b p k).1, .int .i64 (paidUpP b p k).2]) ∧ Below w.heap.size w w' := by
  unfold Policy.row
  have HB := Lib.hid (Below.refl w.heap.size w)
  have HH := Lib.hid (Held.nil w)
  have HT := Lib.hid hB; clear hB
  obtain ⟨hb, hr0, hr1⟩ := box2 (w := w) (tx := 28) (ty := 35) (X := [.int .i64 b.first, .slice A n cap, .int .i64 b.rate]) (Y := [.int .i64 p.kind, .int .i64 p.age, .int .i64 p.years, .int .i64 p.sum, .int .i64 p.load])
  replace HB := Lib.hid (below_all HB.out hb)
  replace HT := Lib.hid (HT.out.past hb)
  replace HH := Lib.hid (((HH.out.past hb).cons hr0).cons hr1)
  clear hb hr0 hr1
  by_cases h0 : leavCode b p k = 0
  · skip
    have Q := Lib.hid (show paidUpP b p k = (puQ p.sum (valV b p k) (partD b p k) (partT b p k), 0) by unfold paidUpP; rw [if_pos h0])
    have HY := Lib.hid (year_ok (leav_ok h0).1)
    obtain ⟨⟨r0, r1⟩, v0, v1⟩ := val_bound HY.out
    have hpo := part_ok HY.out (net_bound HY.out.toPolOk)
    have t0 := hpo.t0; have t1 := hpo.t1; have t2 := hpo.d0; have t3 := hpo.d1; have s1 := hpo.s1; have s0 := HY.out.sum0
    clear hpo
    have H0 := Lib.hid h0; clear h0
    go_enter Try.func34, Try.ntmps34
    have HL_bx := Lib.hid (Rd.box (HH.out.get 1 rfl))
    have HL_px := Lib.hid (Rd.box (HH.out.get 0 rfl))
    go_wp2_with (first | (refine wpList_load_agg rfl 28 _ rfl ⟨w.heap.size, 0, none⟩ rfl [.int .i64 b.first, .slice A n cap, .int .i64 b.rate] HL_bx.out _ Try.underlying28 rfl Bas.size ?_) | (refine wpList_load_agg rfl 35 _ rfl ⟨w.heap.size + 1, 0, none⟩ rfl [.int .i64 p.kind, .int .i64 p.age, .int .i64 p.years, .int .i64 p.sum, .int .i64 p.load] HL_px.out _ Try.underlying35 rfl Policy.size ?_))
    clear HL_bx HL_px
    generalize ((w.alloc (.cells #[.int .i64 b.first, .slice A n cap, .int .i64 b.rate] 28)).alloc (.cells #[.int .i64 p.kind, .int .i64 p.age, .int .i64 p.years, .int .i64 p.sum, .int .i64 p.load] 35)) = v0 at HB HH HT ⊢
    generalize w.heap.size + 1 = g0_1 at HH ⊢
    generalize w.heap.size = g0_0 at HH ⊢
    refine (spec_l12Code_any b A n cap p k _ HT.out hp hk).mono ?_
    rw [H0.out]
    rintro e w1 ⟨rfl, hb⟩
    replace HB := Lib.hid (below_all HB.out hb)
    replace HT := Lib.hid (HT.out.past hb)
    replace HH := Lib.hid (HH.out.past hb)
    clear hb
    have HL_bx := Lib.hid (Rd.box (HH.out.get 1 rfl))
    have HL_px := Lib.hid (Rd.box (HH.out.get 0 rfl))
    go_wp2_with (first | (refine wpList_load_agg rfl 28 _ rfl ⟨g0_0, 0, none⟩ rfl [.int .i64 b.first, .slice A n cap, .int .i64 b.rate] HL_bx.out _ Try.underlying28 rfl Bas.size ?_) | (refine wpList_load_agg rfl 35 _ rfl ⟨g0_1, 0, none⟩ rfl [.int .i64 p.kind, .int .i64 p.age, .int .i64 p.years, .int .i64 p.sum, .int .i64 p.load] HL_px.out _ Try.underlying35 rfl Policy.size ?_))
    clear HL_bx HL_px
    refine (spec_l11Parts_any b A n cap p k _ HT.out HY.out).mono ?_
    rintro e w2 ⟨rfl, hb⟩
    replace HB := Lib.hid (below_all HB.out hb)
    replace HT := Lib.hid (HT.out.past hb)
    replace HH := Lib.hid (HH.out.past hb)
    clear hb
    by_cases ht : partT b p k = 0
    · skip
      have htb : (partT b p k == 0) = true := by simp [ht]
      have QP := Lib.hid (show puQ p.sum (valV b p k) (partD b p k) (partT b p k) = 0 by unfold puQ; rw [if_pos ht])
      clear ht
      go_wp2
      go_ret2
      exact ⟨by rw [Q.out, QP.out]; rfl, HB.out⟩
    · skip
      have htb : (partT b p k == 0) = false := by simp [ht]
      have QP := Lib.hid (show puQ p.sum (valV b p k) (partD b p k) (partT b p k) = min p.sum (valV b p k * partD b p k / partT b p k) by unfold puQ; rw [if_neg ht])
      have ht1 : 1 ≤ partT b p k := by omega
      clear ht
      have HL_bx := Lib.hid (Rd.box (HH.out.get 1 rfl))
      have HL_px := Lib.hid (Rd.box (HH.out.get 0 rfl))
      go_wp2_with (first | (refine wpList_load_agg rfl 28 _ rfl ⟨g0_0, 0, none⟩ rfl [.int .i64 b.first, .slice A n cap, .int .i64 b.rate] HL_bx.out _ Try.underlying28 rfl Bas.size ?_) | (refine wpList_load_agg rfl 35 _ rfl ⟨g0_1, 0, none⟩ rfl [.int .i64 p.kind, .int .i64 p.age, .int .i64 p.years, .int .i64 p.sum, .int .i64 p.load] HL_px.out _ Try.underlying35 rfl Policy.size ?_))
      clear HL_bx HL_px
      refine (spec_l12Value_any b A n cap p k _ HT.out HY.out).mono ?_
      rintro e w3 ⟨rfl, hb⟩
      replace HB := Lib.hid (below_all HB.out hb)
      replace HT := Lib.hid (HT.out.past hb)
      replace HH := Lib.hid (HH.out.past hb)
      clear hb
      go_wp2_with fail
      by_cases hq : valV b p k * partD b p k / partT b p k ≤ 1000000000000000000
      · skip
        have QM := Lib.hid (show ldP (valV b p k) (partD b p k) (partT b p k) = (valV b p k * partD b p k / partT b p k, valV b p k * partD b p k % partT b p k) by unfold ldP; rw [if_pos hq])
        refine (spec_l05Divide_any (valV b p k) (partD b p k) (partT b p k) _ ⟨by omega, by omega⟩ ⟨by omega, by omega⟩ ⟨by omega, by omega⟩).mono ?_
        rw [QM.out]
        rintro e w' ⟨rfl, rfl⟩
        have q0 : w3.cell? ⟨g0_1, 0, none⟩ = some (.int .i64 p.kind) := Rd.bcell (HH.out.get 0 rfl) 0 rfl
        have q1 : w3.cell? ⟨g0_1, 1, none⟩ = some (.int .i64 p.age) := Rd.bcell (HH.out.get 0 rfl) 1 rfl
        have q2 : w3.cell? ⟨g0_1, 2, none⟩ = some (.int .i64 p.years) := Rd.bcell (HH.out.get 0 rfl) 2 rfl
        have q3 : w3.cell? ⟨g0_1, 3, none⟩ = some (.int .i64 p.sum) := Rd.bcell (HH.out.get 0 rfl) 3 rfl
        have q4 : w3.cell? ⟨g0_1, 4, none⟩ = some (.int .i64 p.load) := Rd.bcell (HH.out.get 0 rfl) 4 rfl
        generalize valV b p k * partD b p k / partT b p k = z at hq QP ⊢
        generalize valV b p k * partD b p k % partT b p k = zr
        clear hq
        go_wp2
        go_ret2
        exact ⟨by rw [Q.out, QP.out]; rfl, HB.out⟩
      · skip
        have QM := Lib.hid (show ldP (valV b p k) (partD b p k) (partT b p k) = (2000000000000000000, 0) by unfold ldP; rw [if_neg hq])
        refine (spec_l05Divide_any (valV b p k) (partD b p k) (partT b p k) _ ⟨by omega, by omega⟩ ⟨by omega, by omega⟩ ⟨by omega, by omega⟩).mono ?_
        rw [QM.out]
        rintro e w' ⟨rfl, rfl⟩
        have q0 : w3.cell? ⟨g0_1, 0, none⟩ = some (.int .i64 p.kind) := Rd.bcell (HH.out.get 0 rfl) 0 rfl
        have q1 : w3.cell? ⟨g0_1, 1, none⟩ = some (.int .i64 p.age) := Rd.bcell (HH.out.get 0 rfl) 1 rfl
        have q2 : w3.cell? ⟨g0_1, 2, none⟩ = some (.int .i64 p.years) := Rd.bcell (HH.out.get 0 rfl) 2 rfl
        have q3 : w3.cell? ⟨g0_1, 3, none⟩ = some (.int .i64 p.sum) := Rd.bcell (HH.out.get 0 rfl) 3 rfl
        have q4 : w3.cell? ⟨g0_1, 4, none⟩ = some (.int .i64 p.load) := Rd.bcell (HH.out.get 0 rfl) 4 rfl
        have QL := Lib.hid (QP.out.trans (show min p.sum (valV b p k * partD b p k / partT b p k) = min p.sum 2000000000000000000 by omega))
        clear hq
        go_wp2
        go_ret2
        exact ⟨by rw [Q.out, QL.out]; rfl, HB.out⟩
  · skip
    have Q := Lib.hid (show paidUpP b p k = (0, leavCode b p k) by unfold paidUpP; rw [if_neg h0])
    have hz : (leavCode b p k != 0) = true := by simpa [bne] using h0
    go_enter Try.func34, Try.ntmps34
    have HL_bx := Lib.hid (Rd.box (HH.out.get 1 rfl))
    have HL_px := Lib.hid (Rd.box (HH.out.get 0 rfl))
    go_wp2_with (first | (refine wpList_load_agg rfl 28 _ rfl ⟨w.heap.size, 0, none⟩ rfl [.int .i64 b.first, .slice A n cap, .int .i64 b.rate] HL_bx.out _ Try.underlying28 rfl Bas.size ?_) | (refine wpList_load_agg rfl 35 _ rfl ⟨w.heap.size + 1, 0, none⟩ rfl [.int .i64 p.kind, .int .i64 p.age, .int .i64 p.years, .int .i64 p.sum, .int .i64 p.load] HL_px.out _ Try.underlying35 rfl Policy.size ?_))
    clear HL_bx HL_px
    generalize ((w.alloc (.cells #[.int .i64 b.first, .slice A n cap, .int .i64 b.rate] 28)).alloc (.cells #[.int .i64 p.kind, .int .i64 p.age, .int .i64 p.years, .int .i64 p.sum, .int .i64 p.load] 35)) = v0 at HB HH HT ⊢
    generalize w.heap.size + 1 = g0_1 at HH ⊢
    generalize w.heap.size = g0_0 at HH ⊢
    refine (spec_l12Code_any b A n cap p k _ HT.out hp hk).mono ?_
    rintro e w1 ⟨rfl, hb⟩
    replace HB := Lib.hid (below_all HB.out hb)
    replace HT := Lib.hid (HT.out.past hb)
    replace HH := Lib.hid (HH.out.past hb)
    clear hb
    clear h0
    generalize hc : leavCode b p k = c at hz Q ⊢
    clear hc
    have hcc : (c == 0) = false := by simpa [bne] using hz
    go_wp2
    go_ret2
    exact ⟨by rw [Q.out]; rfl, HB.out⟩
end Go.Proofs.Ytbjdbpdgacfcpaa
end
