/- Parts of a proof, one after another: Lv3, Age4, Port5, AgeQ. No condition. -/
import Derived.Test.YtbjdbpdgacfcpaaK10
import Derived.Test.YtbjdbpdgacfcpaaK13
import Derived.Test.YtbjdbpdgacfcpaaK18
/- What leaving gives: the reference (printed by lv.py). -/
section
namespace Go.Proofs.Ytbjdbpdgacfcpaa
open Go.RowKit Go.BigFrame

set_option maxRecDepth 20000 in
set_option maxHeartbeats 8000000 in
theorem spec_l12Code_any (b : Bas) (A : Option Addr) (n cap : Nat) (p : Policy) (k : Int) (w : World) (hB : BasT w A n cap b) (hp : p.fits) (hk : In64 k) :
    Calls Try.prog 89 #[.agg #[.int .i64 b.first, .slice A n cap, .int .i64 b.rate], .agg p.row.toArray, .int .i64 k] w fun e w' => e = .returned (.int .i64 (leavCode b p k)) ∧ Below w.heap.size w w' := by
  unfold Policy.row
  have HB := Lib.hid (Below.refl w.heap.size w)
  have HH := Lib.hid (Held.nil w)
  have HT := Lib.hid hB; clear hB
  obtain ⟨hb, hr0, hr1⟩ := box2 (w := w) (tx := 28) (ty := 35) (X := [.int .i64 b.first, .slice A n cap, .int .i64 b.rate]) (Y := [.int .i64 p.kind, .int .i64 p.age, .int .i64 p.years, .int .i64 p.sum, .int .i64 p.load])
  replace HB := Lib.hid (below_all HB.out hb)
  replace HT := Lib.hid (HT.out.past hb)
  replace HH := Lib.hid (((HH.out.past hb).cons hr0).cons hr1)
  clear hb hr0 hr1
  by_cases h0 : resCode b p k = 0
  · skip
    have H0 := Lib.hid h0; clear h0
    by_cases h2 : k < 2
    · skip
      have Q := Lib.hid (show leavCode b p k = 4 by unfold leavCode; rw [if_pos H0.out, if_pos h2])
      have hkb : decide (k < 2) = true := by simp; omega
      clear h2
      go_enter Try.func89, Try.ntmps89
      have HL_bx := Lib.hid (Rd.box (HH.out.get 1 rfl))
      have HL_px := Lib.hid (Rd.box (HH.out.get 0 rfl))
      go_wp2_with (first | (refine wpList_load_agg rfl 28 _ rfl ⟨w.heap.size, 0, none⟩ rfl [.int .i64 b.first, .slice A n cap, .int .i64 b.rate] HL_bx.out _ Try.underlying28 rfl Bas.size ?_) | (refine wpList_load_agg rfl 35 _ rfl ⟨w.heap.size + 1, 0, none⟩ rfl [.int .i64 p.kind, .int .i64 p.age, .int .i64 p.years, .int .i64 p.sum, .int .i64 p.load] HL_px.out _ Try.underlying35 rfl Policy.size ?_))
      clear HL_bx HL_px
      generalize ((w.alloc (.cells #[.int .i64 b.first, .slice A n cap, .int .i64 b.rate] 28)).alloc (.cells #[.int .i64 p.kind, .int .i64 p.age, .int .i64 p.years, .int .i64 p.sum, .int .i64 p.load] 35)) = v0 at HB HH HT ⊢
      generalize w.heap.size + 1 = g0_1 at HH ⊢
      generalize w.heap.size = g0_0 at HH ⊢
      refine (spec_l11Code_any b A n cap p k _ HT.out hp hk).mono ?_
      rw [H0.out]
      rintro e w1 ⟨rfl, hb⟩
      replace HB := Lib.hid (below_all HB.out hb)
      replace HT := Lib.hid (HT.out.past hb)
      replace HH := Lib.hid (HH.out.past hb)
      clear hb
      go_wp2
      go_ret
      exact ⟨by rw [Q.out]; rfl, HB.out⟩
    · skip
      have Q := Lib.hid (show leavCode b p k = 0 by unfold leavCode; rw [if_pos H0.out, if_neg h2])
      have hkb : decide (k < 2) = false := by simp; omega
      clear h2
      go_enter Try.func89, Try.ntmps89
      have HL_bx := Lib.hid (Rd.box (HH.out.get 1 rfl))
      have HL_px := Lib.hid (Rd.box (HH.out.get 0 rfl))
      go_wp2_with (first | (refine wpList_load_agg rfl 28 _ rfl ⟨w.heap.size, 0, none⟩ rfl [.int .i64 b.first, .slice A n cap, .int .i64 b.rate] HL_bx.out _ Try.underlying28 rfl Bas.size ?_) | (refine wpList_load_agg rfl 35 _ rfl ⟨w.heap.size + 1, 0, none⟩ rfl [.int .i64 p.kind, .int .i64 p.age, .int .i64 p.years, .int .i64 p.sum, .int .i64 p.load] HL_px.out _ Try.underlying35 rfl Policy.size ?_))
      clear HL_bx HL_px
      generalize ((w.alloc (.cells #[.int .i64 b.first, .slice A n cap, .int .i64 b.rate] 28)).alloc (.cells #[.int .i64 p.kind, .int .i64 p.age, .int .i64 p.years, .int .i64 p.sum, .int .i64 p.load] 35)) = v0 at HB HH HT ⊢
      generalize w.heap.size + 1 = g0_1 at HH ⊢
      generalize w.heap.size = g0_0 at HH ⊢
      refine (spec_l11Code_any b A n cap p k _ HT.out hp hk).mono ?_
      rw [H0.out]
      rintro e w1 ⟨rfl, hb⟩
      replace HB := Lib.hid (below_all HB.out hb)
      replace HT := Lib.hid (HT.out.past hb)
      replace HH := Lib.hid (HH.out.past hb)
      clear hb
      go_wp2
      go_ret
      exact ⟨by rw [Q.out]; rfl, HB.out⟩
  · skip
    have Q := Lib.hid (show leavCode b p k = resCode b p k by unfold leavCode; rw [if_neg h0])
    have hz : (resCode b p k == 0) = false := by simpa using h0
    go_enter Try.func89, Try.ntmps89
    have HL_bx := Lib.hid (Rd.box (HH.out.get 1 rfl))
    have HL_px := Lib.hid (Rd.box (HH.out.get 0 rfl))
    go_wp2_with (first | (refine wpList_load_agg rfl 28 _ rfl ⟨w.heap.size, 0, none⟩ rfl [.int .i64 b.first, .slice A n cap, .int .i64 b.rate] HL_bx.out _ Try.underlying28 rfl Bas.size ?_) | (refine wpList_load_agg rfl 35 _ rfl ⟨w.heap.size + 1, 0, none⟩ rfl [.int .i64 p.kind, .int .i64 p.age, .int .i64 p.years, .int .i64 p.sum, .int .i64 p.load] HL_px.out _ Try.underlying35 rfl Policy.size ?_))
    clear HL_bx HL_px
    generalize ((w.alloc (.cells #[.int .i64 b.first, .slice A n cap, .int .i64 b.rate] 28)).alloc (.cells #[.int .i64 p.kind, .int .i64 p.age, .int .i64 p.years, .int .i64 p.sum, .int .i64 p.load] 35)) = v0 at HB HH HT ⊢
    generalize w.heap.size + 1 = g0_1 at HH ⊢
    generalize w.heap.size = g0_0 at HH ⊢
    refine (spec_l11Code_any b A n cap p k _ HT.out hp hk).mono ?_
    rintro e w1 ⟨rfl, hb⟩
    replace HB := Lib.hid (below_all HB.out hb)
    replace HT := Lib.hid (HT.out.past hb)
    replace HH := Lib.hid (HH.out.past hb)
    clear hb
    clear h0
    go_wp2
    go_ret
    exact ⟨by rw [Q.out]; rfl, HB.out⟩
set_option maxRecDepth 20000 in
set_option maxHeartbeats 8000000 in
theorem spec_l12Value_any (b : Bas) (A : Option Addr) (n cap : Nat) (p : Policy) (k : Int) (w : World) (hB : BasT w A n cap b) (Y : YearOk b p k) :
    Calls Try.prog 92 #[.agg #[.int .i64 b.first, .slice A n cap, .int .i64 b.rate], .agg p.row.toArray, .int .i64 k] w fun e w' => e = .returned (.int .i64 (valV b p k)) ∧ Below w.heap.size w w' := by
  unfold Policy.row
  have HB := Lib.hid (Below.refl w.heap.size w)
  have HH := Lib.hid (Held.nil w)
  have HT := Lib.hid hB; clear hB
  obtain ⟨hb, hr0, hr1⟩ := box2 (w := w) (tx := 28) (ty := 35) (X := [.int .i64 b.first, .slice A n cap, .int .i64 b.rate]) (Y := [.int .i64 p.kind, .int .i64 p.age, .int .i64 p.years, .int .i64 p.sum, .int .i64 p.load])
  replace HB := Lib.hid (below_all HB.out hb)
  replace HT := Lib.hid (HT.out.past hb)
  replace HH := Lib.hid (((HH.out.past hb).cons hr0).cons hr1)
  clear hb hr0 hr1
  have HY := Lib.hid Y
  obtain ⟨⟨r0, r1⟩, _, _⟩ := val_bound Y
  clear Y
  have Q := Lib.hid (show valV b p k = resAt b p k * 900 / 1000 from rfl)
  go_enter Try.func92, Try.ntmps92
  have HL_bx := Lib.hid (Rd.box (HH.out.get 1 rfl))
  have HL_px := Lib.hid (Rd.box (HH.out.get 0 rfl))
  go_wp2_with (first | (refine wpList_load_agg rfl 28 _ rfl ⟨w.heap.size, 0, none⟩ rfl [.int .i64 b.first, .slice A n cap, .int .i64 b.rate] HL_bx.out _ Try.underlying28 rfl Bas.size ?_) | (refine wpList_load_agg rfl 35 _ rfl ⟨w.heap.size + 1, 0, none⟩ rfl [.int .i64 p.kind, .int .i64 p.age, .int .i64 p.years, .int .i64 p.sum, .int .i64 p.load] HL_px.out _ Try.underlying35 rfl Policy.size ?_))
  clear HL_bx HL_px
  generalize ((w.alloc (.cells #[.int .i64 b.first, .slice A n cap, .int .i64 b.rate] 28)).alloc (.cells #[.int .i64 p.kind, .int .i64 p.age, .int .i64 p.years, .int .i64 p.sum, .int .i64 p.load] 35)) = v0 at HB HH HT ⊢
  generalize w.heap.size + 1 = g0_1 at HH ⊢
  generalize w.heap.size = g0_0 at HH ⊢
  refine (spec_l11At_any b A n cap p k _ HT.out HY.out).mono ?_
  rintro e w1 ⟨rfl, hb⟩
  replace HB := Lib.hid (below_all HB.out hb)
  replace HT := Lib.hid (HT.out.past hb)
  replace HH := Lib.hid (HH.out.past hb)
  clear hb
  go_wp2
  go_ret
  exact ⟨by rw [Q.out]; rfl, HB.out⟩
set_option maxRecDepth 20000 in
set_option maxHeartbeats 8000000 in
theorem spec_SurrenderValue_any (b : Bas) (A : Option Addr) (n cap : Nat) (p : Policy) (k : Int) (w : World) (hB : BasT w A n cap b) (hp : p.fits) (hk : In64 k) :
    Calls Try.prog 36 #[.agg #[.int .i64 b.first, .slice A n cap, .int .i64 b.rate], .agg p.row.toArray, .int .i64 k] w fun e w' => e = .returned (.tuple #[.int .i64 (surP b p k).1, .int .i64 (surP b p k).2]) ∧ Below w.heap.size w w' := by
  unfold Policy.row
  have HB := Lib.hid (Below.refl w.heap.size w)
  have HH := Lib.hid (Held.nil w)
  have HT := Lib.hid hB; clear hB
  obtain ⟨hb, hr0, hr1⟩ := box2 (w := w) (tx := 28) (ty := 35) (X := [.int .i64 b.first, .slice A n cap, .int .i64 b.rate]) (Y := [.int .i64 p.kind, .int .i64 p.age, .int .i64 p.years, .int .i64 p.sum, .int .i64 p.load])
  replace HB := Lib.hid (below_all HB.out hb)
  replace HT := Lib.hid (HT.out.past hb)
  replace HH := Lib.hid (((HH.out.past hb).cons hr0).cons hr1)
  clear hb hr0 hr1
  by_cases h0 : leavCode b p k = 0
  · skip
    have Q := Lib.hid (show surP b p k = (valV b p k, 0) by unfold surP; rw [if_pos h0])
    have HY := Lib.hid (year_ok (leav_ok h0).1)
    obtain ⟨⟨r0, r1⟩, v0, v1⟩ := val_bound HY.out
    have hpo := part_ok HY.out (net_bound HY.out.toPolOk)
    have t0 := hpo.t0; have t1 := hpo.t1; have t2 := hpo.d0; have t3 := hpo.d1; have s1 := hpo.s1; have s0 := HY.out.sum0
    clear hpo
    have H0 := Lib.hid h0; clear h0
    go_enter Try.func36, Try.ntmps36
    have HL_bx := Lib.hid (Rd.box (HH.out.get 1 rfl))
    have HL_px := Lib.hid (Rd.box (HH.out.get 0 rfl))
    go_wp2_with (first | (refine wpList_load_agg rfl 28 _ rfl ⟨w.heap.size, 0, none⟩ rfl [.int .i64 b.first, .slice A n cap, .int .i64 b.rate] HL_bx.out _ Try.underlying28 rfl Bas.size ?_) | (refine wpList_load_agg rfl 35 _ rfl ⟨w.heap.size + 1, 0, none⟩ rfl [.int .i64 p.kind, .int .i64 p.age, .int .i64 p.years, .int .i64 p.sum, .int .i64 p.load] HL_px.out _ Try.underlying35 rfl Policy.size ?_))
    clear HL_bx HL_px
    generalize ((w.alloc (.cells #[.int .i64 b.first, .slice A n cap, .int .i64 b.rate] 28)).alloc (.cells #[.int .i64 p.kind, .int .i64 p.age, .int .i64 p.years, .int .i64 p.sum, .int .i64 p.load] 35)) = v0 at HB HH HT ⊢
    generalize w.heap.size + 1 = g0_1 at HH ⊢
    generalize w.heap.size = g0_0 at HH ⊢
    refine (spec_l12Code_any b A n cap p k _ HT.out hp hk).mono ?_
    rw [H0.out]
    rintro e w1 ⟨rfl, hb⟩
    replace HB := Lib.hid (below_all HB.out hb)
    replace HT := Lib.hid (HT.out.past hb)
    replace HH := Lib.hid (HH.out.past hb)
    clear hb
    have HL_bx := Lib.hid (Rd.box (HH.out.get 1 rfl))
    have HL_px := Lib.hid (Rd.box (HH.out.get 0 rfl))
    go_wp2_with (first | (refine wpList_load_agg rfl 28 _ rfl ⟨g0_0, 0, none⟩ rfl [.int .i64 b.first, .slice A n cap, .int .i64 b.rate] HL_bx.out _ Try.underlying28 rfl Bas.size ?_) | (refine wpList_load_agg rfl 35 _ rfl ⟨g0_1, 0, none⟩ rfl [.int .i64 p.kind, .int .i64 p.age, .int .i64 p.years, .int .i64 p.sum, .int .i64 p.load] HL_px.out _ Try.underlying35 rfl Policy.size ?_))
    clear HL_bx HL_px
    refine (spec_l12Value_any b A n cap p k _ HT.out HY.out).mono ?_
    rintro e w2 ⟨rfl, hb⟩
    replace HB := Lib.hid (below_all HB.out hb)
    replace HT := Lib.hid (HT.out.past hb)
    replace HH := Lib.hid (HH.out.past hb)
    clear hb
    go_wp2
    go_ret2
    exact ⟨by rw [Q.out]; rfl, HB.out⟩
  · skip
    have Q := Lib.hid (show surP b p k = (0, leavCode b p k) by unfold surP; rw [if_neg h0])
    have hz : (leavCode b p k != 0) = true := by simpa [bne] using h0
    go_enter Try.func36, Try.ntmps36
    have HL_bx := Lib.hid (Rd.box (HH.out.get 1 rfl))
    have HL_px := Lib.hid (Rd.box (HH.out.get 0 rfl))
    go_wp2_with (first | (refine wpList_load_agg rfl 28 _ rfl ⟨w.heap.size, 0, none⟩ rfl [.int .i64 b.first, .slice A n cap, .int .i64 b.rate] HL_bx.out _ Try.underlying28 rfl Bas.size ?_) | (refine wpList_load_agg rfl 35 _ rfl ⟨w.heap.size + 1, 0, none⟩ rfl [.int .i64 p.kind, .int .i64 p.age, .int .i64 p.years, .int .i64 p.sum, .int .i64 p.load] HL_px.out _ Try.underlying35 rfl Policy.size ?_))
    clear HL_bx HL_px
    generalize ((w.alloc (.cells #[.int .i64 b.first, .slice A n cap, .int .i64 b.rate] 28)).alloc (.cells #[.int .i64 p.kind, .int .i64 p.age, .int .i64 p.years, .int .i64 p.sum, .int .i64 p.load] 35)) = v0 at HB HH HT ⊢
    generalize w.heap.size + 1 = g0_1 at HH ⊢
    generalize w.heap.size = g0_0 at HH ⊢
    refine (spec_l12Code_any b A n cap p k _ HT.out hp hk).mono ?_
    rintro e w1 ⟨rfl, hb⟩
    replace HB := Lib.hid (below_all HB.out hb)
    replace HT := Lib.hid (HT.out.past hb)
    replace HH := Lib.hid (HH.out.past hb)
    clear hb
    clear h0
    generalize hc : leavCode b p k = c at hz Q ⊢
    clear hc
    have hcc : (c == 0) = false := by simpa [bne] using hz
    go_wp2
    go_ret2
    exact ⟨by rw [Q.out]; rfl, HB.out⟩
set_option maxRecDepth 20000 in
set_option maxHeartbeats 8000000 in
theorem spec_LoanLimit_any (b : Bas) (A : Option Addr) (n cap : Nat) (p : Policy) (k : Int) (w : World) (hB : BasT w A n cap b) (hp : p.fits) (hk : In64 k) :
    Calls Try.prog 40 #[.agg #[.int .i64 b.first, .slice A n cap, .int .i64 b.rate], .agg p.row.toArray, .int .i64 k] w fun e w' => e = .returned (.tuple #[.int .i64 (loanP b p k).1, .int .i64 (loanP b p k).2]) ∧ Below w.heap.size w w' := by
  unfold Policy.row
  have HB := Lib.hid (Below.refl w.heap.size w)
  have HH := Lib.hid (Held.nil w)
  have HT := Lib.hid hB; clear hB
  obtain ⟨hb, hr0, hr1⟩ := box2 (w := w) (tx := 28) (ty := 35) (X := [.int .i64 b.first, .slice A n cap, .int .i64 b.rate]) (Y := [.int .i64 p.kind, .int .i64 p.age, .int .i64 p.years, .int .i64 p.sum, .int .i64 p.load])
  replace HB := Lib.hid (below_all HB.out hb)
  replace HT := Lib.hid (HT.out.past hb)
  replace HH := Lib.hid (((HH.out.past hb).cons hr0).cons hr1)
  clear hb hr0 hr1
  by_cases h0 : leavCode b p k = 0
  · skip
    have Q := Lib.hid (show loanP b p k = (valV b p k * 800 / 1000, 0) by unfold loanP; rw [if_pos h0])
    have HY := Lib.hid (year_ok (leav_ok h0).1)
    obtain ⟨⟨r0, r1⟩, v0, v1⟩ := val_bound HY.out
    have hpo := part_ok HY.out (net_bound HY.out.toPolOk)
    have t0 := hpo.t0; have t1 := hpo.t1; have t2 := hpo.d0; have t3 := hpo.d1; have s1 := hpo.s1; have s0 := HY.out.sum0
    clear hpo
    have H0 := Lib.hid h0; clear h0
    go_enter Try.func40, Try.ntmps40
    have HL_bx := Lib.hid (Rd.box (HH.out.get 1 rfl))
    have HL_px := Lib.hid (Rd.box (HH.out.get 0 rfl))
    go_wp2_with (first | (refine wpList_load_agg rfl 28 _ rfl ⟨w.heap.size, 0, none⟩ rfl [.int .i64 b.first, .slice A n cap, .int .i64 b.rate] HL_bx.out _ Try.underlying28 rfl Bas.size ?_) | (refine wpList_load_agg rfl 35 _ rfl ⟨w.heap.size + 1, 0, none⟩ rfl [.int .i64 p.kind, .int .i64 p.age, .int .i64 p.years, .int .i64 p.sum, .int .i64 p.load] HL_px.out _ Try.underlying35 rfl Policy.size ?_))
    clear HL_bx HL_px
    generalize ((w.alloc (.cells #[.int .i64 b.first, .slice A n cap, .int .i64 b.rate] 28)).alloc (.cells #[.int .i64 p.kind, .int .i64 p.age, .int .i64 p.years, .int .i64 p.sum, .int .i64 p.load] 35)) = v0 at HB HH HT ⊢
    generalize w.heap.size + 1 = g0_1 at HH ⊢
    generalize w.heap.size = g0_0 at HH ⊢
    refine (spec_l12Code_any b A n cap p k _ HT.out hp hk).mono ?_
    rw [H0.out]
    rintro e w1 ⟨rfl, hb⟩
    replace HB := Lib.hid (below_all HB.out hb)
    replace HT := Lib.hid (HT.out.past hb)
    replace HH := Lib.hid (HH.out.past hb)
    clear hb
    have HL_bx := Lib.hid (Rd.box (HH.out.get 1 rfl))
    have HL_px := Lib.hid (Rd.box (HH.out.get 0 rfl))
    go_wp2_with (first | (refine wpList_load_agg rfl 28 _ rfl ⟨g0_0, 0, none⟩ rfl [.int .i64 b.first, .slice A n cap, .int .i64 b.rate] HL_bx.out _ Try.underlying28 rfl Bas.size ?_) | (refine wpList_load_agg rfl 35 _ rfl ⟨g0_1, 0, none⟩ rfl [.int .i64 p.kind, .int .i64 p.age, .int .i64 p.years, .int .i64 p.sum, .int .i64 p.load] HL_px.out _ Try.underlying35 rfl Policy.size ?_))
    clear HL_bx HL_px
    refine (spec_l12Value_any b A n cap p k _ HT.out HY.out).mono ?_
    rintro e w2 ⟨rfl, hb⟩
    replace HB := Lib.hid (below_all HB.out hb)
    replace HT := Lib.hid (HT.out.past hb)
    replace HH := Lib.hid (HH.out.past hb)
    clear hb
    go_wp2
    go_ret2
    exact ⟨by rw [Q.out]; rfl, HB.out⟩
  · skip
    have Q := Lib.hid (show loanP b p k = (0, leavCode b p k) by unfold loanP; rw [if_neg h0])
    have hz : (leavCode b p k != 0) = true := by simpa [bne] using h0
    go_enter Try.func40, Try.ntmps40
    have HL_bx := Lib.hid (Rd.box (HH.out.get 1 rfl))
    have HL_px := Lib.hid (Rd.box (HH.out.get 0 rfl))
    go_wp2_with (first | (refine wpList_load_agg rfl 28 _ rfl ⟨w.heap.size, 0, none⟩ rfl [.int .i64 b.first, .slice A n cap, .int .i64 b.rate] HL_bx.out _ Try.underlying28 rfl Bas.size ?_) | (refine wpList_load_agg rfl 35 _ rfl ⟨w.heap.size + 1, 0, none⟩ rfl [.int .i64 p.kind, .int .i64 p.age, .int .i64 p.years, .int .i64 p.sum, .int .i64 p.load] HL_px.out _ Try.underlying35 rfl Policy.size ?_))
    clear HL_bx HL_px
    generalize ((w.alloc (.cells #[.int .i64 b.first, .slice A n cap, .int .i64 b.rate] 28)).alloc (.cells #[.int .i64 p.kind, .int .i64 p.age, .int .i64 p.years, .int .i64 p.sum, .int .i64 p.load] 35)) = v0 at HB HH HT ⊢
    generalize w.heap.size + 1 = g0_1 at HH ⊢
    generalize w.heap.size = g0_0 at HH ⊢
    refine (spec_l12Code_any b A n cap p k _ HT.out hp hk).mono ?_
    rintro e w1 ⟨rfl, hb⟩
    replace HB := Lib.hid (below_all HB.out hb)
    replace HT := Lib.hid (HT.out.past hb)
    replace HH := Lib.hid (HH.out.past hb)
    clear hb
    clear h0
    generalize hc : leavCode b p k = c at hz Q ⊢
    clear hc
    have hcc : (c == 0) = false := by simpa [bne] using hz
    go_wp2
    go_ret2
    exact ⟨by rw [Q.out]; rfl, HB.out⟩
set_option maxRecDepth 20000 in
set_option maxHeartbeats 8000000 in
theorem spec_LeavingLoss_any (b : Bas) (A : Option Addr) (n cap : Nat) (p : Policy) (k : Int) (w : World) (hB : BasT w A n cap b) (hp : p.fits) (hk : In64 k) :
    Calls Try.prog 38 #[.agg #[.int .i64 b.first, .slice A n cap, .int .i64 b.rate], .agg p.row.toArray, .int .i64 k] w fun e w' => e = .returned (.tuple #[.int .i64 (lossP b p k).1, .int .i64 (lossP b p k).2]) ∧ Below w.heap.size w w' := by
  unfold Policy.row
  have HB := Lib.hid (Below.refl w.heap.size w)
  have HH := Lib.hid (Held.nil w)
  have HT := Lib.hid hB; clear hB
  obtain ⟨hb, hr0, hr1⟩ := box2 (w := w) (tx := 28) (ty := 35) (X := [.int .i64 b.first, .slice A n cap, .int .i64 b.rate]) (Y := [.int .i64 p.kind, .int .i64 p.age, .int .i64 p.years, .int .i64 p.sum, .int .i64 p.load])
  replace HB := Lib.hid (below_all HB.out hb)
  replace HT := Lib.hid (HT.out.past hb)
  replace HH := Lib.hid (((HH.out.past hb).cons hr0).cons hr1)
  clear hb hr0 hr1
  by_cases h0 : leavCode b p k = 0
  · skip
    have Q := Lib.hid (show lossP b p k = (resAt b p k - valV b p k, 0) by unfold lossP; rw [if_pos h0])
    have HY := Lib.hid (year_ok (leav_ok h0).1)
    obtain ⟨⟨r0, r1⟩, v0, v1⟩ := val_bound HY.out
    have hpo := part_ok HY.out (net_bound HY.out.toPolOk)
    have t0 := hpo.t0; have t1 := hpo.t1; have t2 := hpo.d0; have t3 := hpo.d1; have s1 := hpo.s1; have s0 := HY.out.sum0
    clear hpo
    have H0 := Lib.hid h0; clear h0
    go_enter Try.func38, Try.ntmps38
    have HL_bx := Lib.hid (Rd.box (HH.out.get 1 rfl))
    have HL_px := Lib.hid (Rd.box (HH.out.get 0 rfl))
    go_wp2_with (first | (refine wpList_load_agg rfl 28 _ rfl ⟨w.heap.size, 0, none⟩ rfl [.int .i64 b.first, .slice A n cap, .int .i64 b.rate] HL_bx.out _ Try.underlying28 rfl Bas.size ?_) | (refine wpList_load_agg rfl 35 _ rfl ⟨w.heap.size + 1, 0, none⟩ rfl [.int .i64 p.kind, .int .i64 p.age, .int .i64 p.years, .int .i64 p.sum, .int .i64 p.load] HL_px.out _ Try.underlying35 rfl Policy.size ?_))
    clear HL_bx HL_px
    generalize ((w.alloc (.cells #[.int .i64 b.first, .slice A n cap, .int .i64 b.rate] 28)).alloc (.cells #[.int .i64 p.kind, .int .i64 p.age, .int .i64 p.years, .int .i64 p.sum, .int .i64 p.load] 35)) = v0 at HB HH HT ⊢
    generalize w.heap.size + 1 = g0_1 at HH ⊢
    generalize w.heap.size = g0_0 at HH ⊢
    refine (spec_l12Code_any b A n cap p k _ HT.out hp hk).mono ?_
    rw [H0.out]
    rintro e w1 ⟨rfl, hb⟩
    replace HB := Lib.hid (below_all HB.out hb)
    replace HT := Lib.hid (HT.out.past hb)
    replace HH := Lib.hid (HH.out.past hb)
    clear hb
    go_wp2
    have hQ_bx := Lib.hid (Past.cells' (Rd.box (HH.out.get 1 rfl)))
    have hQ_px := Lib.hid (Past.cells' (Rd.box (HH.out.get 0 rfl)))
    refine wp_region_past (by kernel_rfl) (by kernel_rfl) ?_
    repeat (first | (go_big_quiet_want; (first | (first | (refine quiet_load_agg 28 _ rfl ⟨g0_0, 0, none⟩ rfl [.int .i64 b.first, .slice A n cap, .int .i64 b.rate] hQ_bx.out _ Try.underlying28 rfl Bas.size ?_) | (refine quiet_load_agg 35 _ rfl ⟨g0_1, 0, none⟩ rfl [.int .i64 p.kind, .int .i64 p.age, .int .i64 p.years, .int .i64 p.sum, .int .i64 p.load] hQ_px.out _ Try.underlying35 rfl Policy.size ?_))); go_simp; go_big_quiet_on) | go_big_quiet_step ((first | (go_at_call 79; exact past_call (spec_l11At_any b A n cap p k _ (HT.out.at_past _) HY.out)) | (go_at_call 92; exact past_call (spec_l12Value_any b A n cap p k _ (HT.out.at_past _) HY.out)))))
    refine wpQuiet_nil ?_
    rintro _ ⟨y, rfl⟩
    have hb := y.2
    replace HB := Lib.hid (below_all HB.out hb)
    replace HT := Lib.hid (HT.out.past hb)
    replace HH := Lib.hid (HH.out.past hb)
    clear hb
    clear hQ_bx hQ_px
    go_wp2
    go_ret2
    exact ⟨by rw [Q.out]; rfl, HB.out⟩
  · skip
    have Q := Lib.hid (show lossP b p k = (0, leavCode b p k) by unfold lossP; rw [if_neg h0])
    have hz : (leavCode b p k != 0) = true := by simpa [bne] using h0
    go_enter Try.func38, Try.ntmps38
    have HL_bx := Lib.hid (Rd.box (HH.out.get 1 rfl))
    have HL_px := Lib.hid (Rd.box (HH.out.get 0 rfl))
    go_wp2_with (first | (refine wpList_load_agg rfl 28 _ rfl ⟨w.heap.size, 0, none⟩ rfl [.int .i64 b.first, .slice A n cap, .int .i64 b.rate] HL_bx.out _ Try.underlying28 rfl Bas.size ?_) | (refine wpList_load_agg rfl 35 _ rfl ⟨w.heap.size + 1, 0, none⟩ rfl [.int .i64 p.kind, .int .i64 p.age, .int .i64 p.years, .int .i64 p.sum, .int .i64 p.load] HL_px.out _ Try.underlying35 rfl Policy.size ?_))
    clear HL_bx HL_px
    generalize ((w.alloc (.cells #[.int .i64 b.first, .slice A n cap, .int .i64 b.rate] 28)).alloc (.cells #[.int .i64 p.kind, .int .i64 p.age, .int .i64 p.years, .int .i64 p.sum, .int .i64 p.load] 35)) = v0 at HB HH HT ⊢
    generalize w.heap.size + 1 = g0_1 at HH ⊢
    generalize w.heap.size = g0_0 at HH ⊢
    refine (spec_l12Code_any b A n cap p k _ HT.out hp hk).mono ?_
    rintro e w1 ⟨rfl, hb⟩
    replace HB := Lib.hid (below_all HB.out hb)
    replace HT := Lib.hid (HT.out.past hb)
    replace HH := Lib.hid (HH.out.past hb)
    clear hb
    clear h0
    generalize hc : leavCode b p k = c at hz Q ⊢
    clear hc
    have hcc : (c == 0) = false := by simpa [bne] using hz
    go_wp2
    go_ret2
    exact ⟨by rw [Q.out]; rfl, HB.out⟩
set_option maxRecDepth 20000 in
set_option maxHeartbeats 8000000 in
theorem spec_PaidUpSum_any (b : Bas) (A : Option Addr) (n cap : Nat) (p : Policy) (k : Int) (w : World) (hB : BasT w A n cap b) (hp : p.fits) (hk : In64 k) :
    Calls Try.prog 34 #[.agg #[.int .i64 b.first, .slice A n cap, .int .i64 b.rate], .agg p.row.toArray, .int .i64 k] w fun e w' => e = .returned (.tuple #[.int .i64 (paidUpP b p k).1, .int .i64 (paidUpP b p k).2]) ∧ Below w.heap.size w w' := by
  unfold Policy.row
  have HB := Lib.hid (Below.refl w.heap.size w)
  have HH := Lib.hid (Held.nil w)
  have HT := Lib.hid hB; clear hB
  obtain ⟨hb, hr0, hr1⟩ := box2 (w := w) (tx := 28) (ty := 35) (X := [.int .i64 b.first, .slice A n cap, .int .i64 b.rate]) (Y := [.int .i64 p.kind, .int .i64 p.age, .int .i64 p.years, .int .i64 p.sum, .int .i64 p.load])
  replace HB := Lib.hid (below_all HB.out hb)
  replace HT := Lib.hid (HT.out.past hb)
  replace HH := Lib.hid (((HH.out.past hb).cons hr0).cons hr1)
  clear hb hr0 hr1
  by_cases h0 : leavCode b p k = 0
  · skip
    have Q := Lib.hid (show paidUpP b p k = (puQ p.sum (valV b p k) (partD b p k) (partT b p k), 0) by unfold paidUpP; rw [if_pos h0])
    have HY := Lib.hid (year_ok (leav_ok h0).1)
    obtain ⟨⟨r0, r1⟩, v0, v1⟩ := val_bound HY.out
    have hpo := part_ok HY.out (net_bound HY.out.toPolOk)
    have t0 := hpo.t0; have t1 := hpo.t1; have t2 := hpo.d0; have t3 := hpo.d1; have s1 := hpo.s1; have s0 := HY.out.sum0
    clear hpo
    have H0 := Lib.hid h0; clear h0
    go_enter Try.func34, Try.ntmps34
    have HL_bx := Lib.hid (Rd.box (HH.out.get 1 rfl))
    have HL_px := Lib.hid (Rd.box (HH.out.get 0 rfl))
    go_wp2_with (first | (refine wpList_load_agg rfl 28 _ rfl ⟨w.heap.size, 0, none⟩ rfl [.int .i64 b.first, .slice A n cap, .int .i64 b.rate] HL_bx.out _ Try.underlying28 rfl Bas.size ?_) | (refine wpList_load_agg rfl 35 _ rfl ⟨w.heap.size + 1, 0, none⟩ rfl [.int .i64 p.kind, .int .i64 p.age, .int .i64 p.years, .int .i64 p.sum, .int .i64 p.load] HL_px.out _ Try.underlying35 rfl Policy.size ?_))
    clear HL_bx HL_px
    generalize ((w.alloc (.cells #[.int .i64 b.first, .slice A n cap, .int .i64 b.rate] 28)).alloc (.cells #[.int .i64 p.kind, .int .i64 p.age, .int .i64 p.years, .int .i64 p.sum, .int .i64 p.load] 35)) = v0 at HB HH HT ⊢
    generalize w.heap.size + 1 = g0_1 at HH ⊢
    generalize w.heap.size = g0_0 at HH ⊢
    refine (spec_l12Code_any b A n cap p k _ HT.out hp hk).mono ?_
    rw [H0.out]
    rintro e w1 ⟨rfl, hb⟩
    replace HB := Lib.hid (below_all HB.out hb)
    replace HT := Lib.hid (HT.out.past hb)
    replace HH := Lib.hid (HH.out.past hb)
    clear hb
    have HL_bx := Lib.hid (Rd.box (HH.out.get 1 rfl))
    have HL_px := Lib.hid (Rd.box (HH.out.get 0 rfl))
    go_wp2_with (first | (refine wpList_load_agg rfl 28 _ rfl ⟨g0_0, 0, none⟩ rfl [.int .i64 b.first, .slice A n cap, .int .i64 b.rate] HL_bx.out _ Try.underlying28 rfl Bas.size ?_) | (refine wpList_load_agg rfl 35 _ rfl ⟨g0_1, 0, none⟩ rfl [.int .i64 p.kind, .int .i64 p.age, .int .i64 p.years, .int .i64 p.sum, .int .i64 p.load] HL_px.out _ Try.underlying35 rfl Policy.size ?_))
    clear HL_bx HL_px
    refine (spec_l11Parts_any b A n cap p k _ HT.out HY.out).mono ?_
    rintro e w2 ⟨rfl, hb⟩
    replace HB := Lib.hid (below_all HB.out hb)
    replace HT := Lib.hid (HT.out.past hb)
    replace HH := Lib.hid (HH.out.past hb)
    clear hb
    by_cases ht : partT b p k = 0
    · skip
      have htb : (partT b p k == 0) = true := by simp [ht]
      have QP := Lib.hid (show puQ p.sum (valV b p k) (partD b p k) (partT b p k) = 0 by unfold puQ; rw [if_pos ht])
      clear ht
      go_wp2
      go_ret2
      exact ⟨by rw [Q.out, QP.out]; rfl, HB.out⟩
    · skip
      have htb : (partT b p k == 0) = false := by simp [ht]
      have QP := Lib.hid (show puQ p.sum (valV b p k) (partD b p k) (partT b p k) = min p.sum (valV b p k * partD b p k / partT b p k) by unfold puQ; rw [if_neg ht])
      have ht1 : 1 ≤ partT b p k := by omega
      clear ht
      have HL_bx := Lib.hid (Rd.box (HH.out.get 1 rfl))
      have HL_px := Lib.hid (Rd.box (HH.out.get 0 rfl))
      go_wp2_with (first | (refine wpList_load_agg rfl 28 _ rfl ⟨g0_0, 0, none⟩ rfl [.int .i64 b.first, .slice A n cap, .int .i64 b.rate] HL_bx.out _ Try.underlying28 rfl Bas.size ?_) | (refine wpList_load_agg rfl 35 _ rfl ⟨g0_1, 0, none⟩ rfl [.int .i64 p.kind, .int .i64 p.age, .int .i64 p.years, .int .i64 p.sum, .int .i64 p.load] HL_px.out _ Try.underlying35 rfl Policy.size ?_))
      clear HL_bx HL_px
      refine (spec_l12Value_any b A n cap p k _ HT.out HY.out).mono ?_
      rintro e w3 ⟨rfl, hb⟩
      replace HB := Lib.hid (below_all HB.out hb)
      replace HT := Lib.hid (HT.out.past hb)
      replace HH := Lib.hid (HH.out.past hb)
      clear hb
      go_wp2_with fail
      by_cases hq : valV b p k * partD b p k / partT b p k ≤ 1000000000000000000
      · skip
        have QM := Lib.hid (show ldP (valV b p k) (partD b p k) (partT b p k) = (valV b p k * partD b p k / partT b p k, valV b p k * partD b p k % partT b p k) by unfold ldP; rw [if_pos hq])
        refine (spec_l05Divide_any (valV b p k) (partD b p k) (partT b p k) _ ⟨by omega, by omega⟩ ⟨by omega, by omega⟩ ⟨by omega, by omega⟩).mono ?_
        rw [QM.out]
        rintro e w' ⟨rfl, rfl⟩
        have q0 : w3.cell? ⟨g0_1, 0, none⟩ = some (.int .i64 p.kind) := Rd.bcell (HH.out.get 0 rfl) 0 rfl
        have q1 : w3.cell? ⟨g0_1, 1, none⟩ = some (.int .i64 p.age) := Rd.bcell (HH.out.get 0 rfl) 1 rfl
        have q2 : w3.cell? ⟨g0_1, 2, none⟩ = some (.int .i64 p.years) := Rd.bcell (HH.out.get 0 rfl) 2 rfl
        have q3 : w3.cell? ⟨g0_1, 3, none⟩ = some (.int .i64 p.sum) := Rd.bcell (HH.out.get 0 rfl) 3 rfl
        have q4 : w3.cell? ⟨g0_1, 4, none⟩ = some (.int .i64 p.load) := Rd.bcell (HH.out.get 0 rfl) 4 rfl
        generalize valV b p k * partD b p k / partT b p k = z at hq QP ⊢
        generalize valV b p k * partD b p k % partT b p k = zr
        clear hq
        go_wp2
        go_ret2
        exact ⟨by rw [Q.out, QP.out]; rfl, HB.out⟩
      · skip
        have QM := Lib.hid (show ldP (valV b p k) (partD b p k) (partT b p k) = (2000000000000000000, 0) by unfold ldP; rw [if_neg hq])
        refine (spec_l05Divide_any (valV b p k) (partD b p k) (partT b p k) _ ⟨by omega, by omega⟩ ⟨by omega, by omega⟩ ⟨by omega, by omega⟩).mono ?_
        rw [QM.out]
        rintro e w' ⟨rfl, rfl⟩
        have q0 : w3.cell? ⟨g0_1, 0, none⟩ = some (.int .i64 p.kind) := Rd.bcell (HH.out.get 0 rfl) 0 rfl
        have q1 : w3.cell? ⟨g0_1, 1, none⟩ = some (.int .i64 p.age) := Rd.bcell (HH.out.get 0 rfl) 1 rfl
        have q2 : w3.cell? ⟨g0_1, 2, none⟩ = some (.int .i64 p.years) := Rd.bcell (HH.out.get 0 rfl) 2 rfl
        have q3 : w3.cell? ⟨g0_1, 3, none⟩ = some (.int .i64 p.sum) := Rd.bcell (HH.out.get 0 rfl) 3 rfl
        have q4 : w3.cell? ⟨g0_1, 4, none⟩ = some (.int .i64 p.load) := Rd.bcell (HH.out.get 0 rfl) 4 rfl
        have QL := Lib.hid (QP.out.trans (show min p.sum (valV b p k * partD b p k / partT b p k) = min p.sum 2000000000000000000 by omega))
        clear hq
        go_wp2
        go_ret2
        exact ⟨by rw [Q.out, QL.out]; rfl, HB.out⟩
  · skip
    have Q := Lib.hid (show paidUpP b p k = (0, leavCode b p k) by unfold paidUpP; rw [if_neg h0])
    have hz : (leavCode b p k != 0) = true := by simpa [bne] using h0
    go_enter Try.func34, Try.ntmps34
    have HL_bx := Lib.hid (Rd.box (HH.out.get 1 rfl))
    have HL_px := Lib.hid (Rd.box (HH.out.get 0 rfl))
    go_wp2_with (first | (refine wpList_load_agg rfl 28 _ rfl ⟨w.heap.size, 0, none⟩ rfl [.int .i64 b.first, .slice A n cap, .int .i64 b.rate] HL_bx.out _ Try.underlying28 rfl Bas.size ?_) | (refine wpList_load_agg rfl 35 _ rfl ⟨w.heap.size + 1, 0, none⟩ rfl [.int .i64 p.kind, .int .i64 p.age, .int .i64 p.years, .int .i64 p.sum, .int .i64 p.load] HL_px.out _ Try.underlying35 rfl Policy.size ?_))
    clear HL_bx HL_px
    generalize ((w.alloc (.cells #[.int .i64 b.first, .slice A n cap, .int .i64 b.rate] 28)).alloc (.cells #[.int .i64 p.kind, .int .i64 p.age, .int .i64 p.years, .int .i64 p.sum, .int .i64 p.load] 35)) = v0 at HB HH HT ⊢
    generalize w.heap.size + 1 = g0_1 at HH ⊢
    generalize w.heap.size = g0_0 at HH ⊢
    refine (spec_l12Code_any b A n cap p k _ HT.out hp hk).mono ?_
    rintro e w1 ⟨rfl, hb⟩
    replace HB := Lib.hid (below_all HB.out hb)
    replace HT := Lib.hid (HT.out.past hb)
    replace HH := Lib.hid (HH.out.past hb)
    clear hb
    clear h0
    generalize hc : leavCode b p k = c at hz Q ⊢
    clear hc
    have hcc : (c == 0) = false := by simpa [bne] using hz
    go_wp2
    go_ret2
    exact ⟨by rw [Q.out]; rfl, HB.out⟩
end Go.Proofs.Ytbjdbpdgacfcpaa
end

/- Durations (printed by agel.py). -/
section
namespace Go.Proofs.Ytbjdbpdgacfcpaa
open Go.RowKit Go.BigFrame

set_option maxRecDepth 20000 in
set_option maxHeartbeats 8000000 in
theorem impl_DurationOf_any (b : Bas) (A : Option Addr) (n cap : Nat) (p : Policy) (w : World) (hB : BasT w A n cap b) (hp : p.fits) :
    Calls Try.prog 53 #[.agg #[.int .i64 b.first, .slice A n cap, .int .i64 b.rate], .agg p.row.toArray] w fun e w' => e = .returned (.tuple #[.int .i64 (if polB b p = true then durP b p else 0), .int .i64 (if polB b p = true then 0 else 1)]) ∧ Below w.heap.size w w' := by
  unfold Policy.row
  have HB := Lib.hid (Below.refl w.heap.size w)
  have HH := Lib.hid (Held.nil w)
  have HT := Lib.hid hB; clear hB
  obtain ⟨hb, hr0, hr1⟩ := box2 (w := w) (tx := 28) (ty := 35) (X := [.int .i64 b.first, .slice A n cap, .int .i64 b.rate]) (Y := [.int .i64 p.kind, .int .i64 p.age, .int .i64 p.years, .int .i64 p.sum, .int .i64 p.load])
  replace HB := Lib.hid (below_all HB.out hb)
  replace HT := Lib.hid (HT.out.past hb)
  replace HH := Lib.hid (((HH.out.past hb).cons hr0).cons hr1)
  clear hb hr0 hr1
  cases h1 : polB b p
  · skip
    go_enter Try.func53, Try.ntmps53
    have HL_bx := Lib.hid (Rd.box (HH.out.get 1 rfl))
    have HL_px := Lib.hid (Rd.box (HH.out.get 0 rfl))
    go_wp2_with (first | (refine wpList_load_agg rfl 28 _ rfl ⟨w.heap.size, 0, none⟩ rfl [.int .i64 b.first, .slice A n cap, .int .i64 b.rate] HL_bx.out _ Try.underlying28 rfl Bas.size ?_) | (refine wpList_load_agg rfl 35 _ rfl ⟨w.heap.size + 1, 0, none⟩ rfl [.int .i64 p.kind, .int .i64 p.age, .int .i64 p.years, .int .i64 p.sum, .int .i64 p.load] HL_px.out _ Try.underlying35 rfl Policy.size ?_))
    clear HL_bx HL_px
    generalize ((w.alloc (.cells #[.int .i64 b.first, .slice A n cap, .int .i64 b.rate] 28)).alloc (.cells #[.int .i64 p.kind, .int .i64 p.age, .int .i64 p.years, .int .i64 p.sum, .int .i64 p.load] 35)) = v0 at HB HH HT ⊢
    generalize w.heap.size + 1 = g0_1 at HH ⊢
    generalize w.heap.size = g0_0 at HH ⊢
    refine (impl_IsPolicy_any b A n cap p _ HT.out hp).mono ?_
    rw [h1]
    rintro e w1 ⟨rfl, hb⟩
    replace HB := Lib.hid (below_all HB.out hb)
    replace HT := Lib.hid (HT.out.past hb)
    replace HH := Lib.hid (HH.out.past hb)
    clear hb
    go_wp2
    go_ret2
    exact ⟨rfl, HB.out⟩
  · skip
    have H1 := Lib.hid (pol_ok h1)
    go_enter Try.func53, Try.ntmps53
    have HL_bx := Lib.hid (Rd.box (HH.out.get 1 rfl))
    have HL_px := Lib.hid (Rd.box (HH.out.get 0 rfl))
    go_wp2_with (first | (refine wpList_load_agg rfl 28 _ rfl ⟨w.heap.size, 0, none⟩ rfl [.int .i64 b.first, .slice A n cap, .int .i64 b.rate] HL_bx.out _ Try.underlying28 rfl Bas.size ?_) | (refine wpList_load_agg rfl 35 _ rfl ⟨w.heap.size + 1, 0, none⟩ rfl [.int .i64 p.kind, .int .i64 p.age, .int .i64 p.years, .int .i64 p.sum, .int .i64 p.load] HL_px.out _ Try.underlying35 rfl Policy.size ?_))
    clear HL_bx HL_px
    generalize ((w.alloc (.cells #[.int .i64 b.first, .slice A n cap, .int .i64 b.rate] 28)).alloc (.cells #[.int .i64 p.kind, .int .i64 p.age, .int .i64 p.years, .int .i64 p.sum, .int .i64 p.load] 35)) = v0 at HB HH HT ⊢
    generalize w.heap.size + 1 = g0_1 at HH ⊢
    generalize w.heap.size = g0_0 at HH ⊢
    refine (impl_IsPolicy_any b A n cap p _ HT.out hp).mono ?_
    rw [h1]
    rintro e w1 ⟨rfl, hb⟩
    replace HB := Lib.hid (below_all HB.out hb)
    replace HT := Lib.hid (HT.out.past hb)
    replace HH := Lib.hid (HH.out.past hb)
    clear hb
    have HL_bx := Lib.hid (Rd.box (HH.out.get 1 rfl))
    have HL_px := Lib.hid (Rd.box (HH.out.get 0 rfl))
    go_wp2_with (first | (refine wpList_load_agg rfl 28 _ rfl ⟨g0_0, 0, none⟩ rfl [.int .i64 b.first, .slice A n cap, .int .i64 b.rate] HL_bx.out _ Try.underlying28 rfl Bas.size ?_) | (refine wpList_load_agg rfl 35 _ rfl ⟨g0_1, 0, none⟩ rfl [.int .i64 p.kind, .int .i64 p.age, .int .i64 p.years, .int .i64 p.sum, .int .i64 p.load] HL_px.out _ Try.underlying35 rfl Policy.size ?_))
    clear HL_bx HL_px
    refine (impl_durationOf_any b A n cap p _ HT.out H1.out).mono ?_
    rintro e w2 ⟨rfl, hb⟩
    replace HB := Lib.hid (below_all HB.out hb)
    replace HT := Lib.hid (HT.out.past hb)
    replace HH := Lib.hid (HH.out.past hb)
    clear hb
    go_wp2
    go_ret2
    exact ⟨rfl, HB.out⟩
end Go.Proofs.Ytbjdbpdgacfcpaa
end

/- The premium income of a portfolio: the program's and the reference's contracts. -/
section
namespace Go.Proofs.Ytbjdbpdgacfcpaa
open Go.RowKit Go.BigFrame

def netV (b : Bas) (h : Holding) : Int := h.count * netP b h.pol
def loadV (b : Bas) (h : Holding) : Int := h.count * (officeP b h.pol - netP b h.pol)
def netL (b : Bas) (xs : List Holding) : List Int := xs.map (netV b)
def loadL (b : Bas) (xs : List Holding) : List Int := xs.map (loadV b)
theorem netL_get {b : Bas} {xs : List Holding} {k : Nat} {x : Holding} (h : xs[k]? = some x) : (netL b xs)[k]? = some (x.count * netP b x.pol) := by simp [netL, netV, h]
theorem loadL_get {b : Bas} {xs : List Holding} {k : Nat} {x : Holding} (h : xs[k]? = some x) : (loadL b xs)[k]? = some (x.count * (officeP b x.pol - netP b x.pol)) := by simp [loadL, loadV, h]
theorem prem_bound {b : Bas} {h : Holding} (H : holdB b h = true) : (0 ≤ netP b h.pol ∧ netP b h.pol ≤ 100000000) ∧ (0 ≤ officeP b h.pol - netP b h.pol ∧ officeP b h.pol - netP b h.pol ≤ 200000000) ∧ (0 ≤ h.count * netP b h.pol ∧ h.count * netP b h.pol ≤ 200000000000000) ∧ (0 ≤ h.count * (officeP b h.pol - netP b h.pol) ∧ h.count * (officeP b h.pol - netP b h.pol) ≤ 200000000000000) := by
  obtain ⟨⟨c0, c1⟩, Y⟩ := hold_ok H
  have n1 := net_bound Y.toPolOk
  have o1 := office_bound Y.toPolOk
  have g : ∀ z : Int, 0 ≤ z → z ≤ 200000000 → 0 ≤ h.count * z ∧ h.count * z ≤ 200000000000000 := fun z z0 z1 => by
    refine ⟨Int.mul_nonneg c0 z0, ?_⟩
    have := Int.mul_le_mul c1 z1 z0 (by omega)
    omega
  exact ⟨n1, ⟨by omega, by omega⟩, g _ n1.1 (by omega), g _ (by omega) (by omega)⟩
theorem netL_sums {b : Bas} {xs : List Holding} (hl : xs.length ≤ 30) (hh : ∀ x ∈ xs, holdB b x = true) : Sums (netL b xs) :=
  (sums_of (n := 30) (hi := 200000000000000) (by omega) (by simpa [netL] using hl) (fun v hv => by
    obtain ⟨x, hx, rfl⟩ := List.mem_map.1 hv
    exact (prem_bound (hh x hx)).2.2.1) (by omega)).1
theorem loadL_sums {b : Bas} {xs : List Holding} (hl : xs.length ≤ 30) (hh : ∀ x ∈ xs, holdB b x = true) : Sums (loadL b xs) :=
  (sums_of (n := 30) (hi := 200000000000000) (by omega) (by simpa [loadL] using hl) (fun v hv => by
    obtain ⟨x, hx, rfl⟩ := List.mem_map.1 hv
    exact (prem_bound (hh x hx)).2.2.2) (by omega)).1
def incP (b : Bas) (xs : List Holding) : Int × Int × Int := if portB b xs = true then ((netL b xs).sum, (loadL b xs).sum, 0) else (0, 0, 1)

set_option maxHeartbeats 8000000 in
theorem spec_PremiumIncome_any (b : Bas) (A : Option Addr) (n cap : Nat) (H : Option Addr) (m hcap : Nat) (xs : List Holding) (w : World) (hB : BasT w A n cap b) (hl : xs.length = m) (hm : m ≤ 1048576) (hX : Rd w w.heap.size H 7 (holdingRows xs)) (hf : ∀ x ∈ xs, x.fits) :
    Calls Try.prog 52 #[.agg #[.int .i64 b.first, .slice A n cap, .int .i64 b.rate], .slice H m hcap] w fun e w' => e = .returned (.tuple #[.int .i64 (incP b xs).1, .int .i64 (incP b xs).2.1, .int .i64 (incP b xs).2.2]) ∧ Below w.heap.size w w' := by
  have hbw : Below w.heap.size w (w.alloc (.cells #[.int .i64 b.first, .slice A n cap, .int .i64 b.rate] 28)) := (Below.refl _ w).alloc (Nat.le_refl _) _
  have HB := Lib.hid (Blk.new w 28 #[.int .i64 b.first, .slice A n cap, .int .i64 b.rate])
  have HBT := Lib.hid (hB.past hbw); clear hB
  have HX := Lib.hid (hX.past hbw); clear hX
  have HL := Lib.hid hl; clear hl
  have HF := Lib.hid hf; clear hf
  have hcB0 := Lib.hid (Blk.agg (cs := [.int .i64 b.first, .slice A n cap, .int .i64 b.rate]) HB.out 0 [.int .i64 b.first, .slice A n cap, .int .i64 b.rate] rfl)
  cases hp : portB b xs
  · have Q := Lib.hid (show incP b xs = (0, 0, 1) by simp [incP, hp])
    go_enter Try.func52, Try.ntmps52
    go_wp2_with (refine wpList_load_agg rfl 28 _ rfl ⟨w.heap.size, 0, none⟩ rfl [.int .i64 b.first, .slice A n cap, .int .i64 b.rate] hcB0.out _ Try.underlying28 rfl Bas.size ?_)
    refine (spec_IsPortfolio_any b A n cap H m hcap xs _ HBT.out HL.out hm HX.out HF.out).mono ?_
    rw [hp]
    rintro e w1 ⟨rfl, hb1⟩
    go_wp2
    go_ret3
    exact ⟨by rw [Q.out]; rfl, hbw.trans (hb1.mono hbw.size)⟩
  obtain ⟨h30, hh⟩ := port_hold hp
  have HS := Lib.hid (netL_sums h30 hh)
  have HS2 := Lib.hid (loadL_sums h30 hh)
  have HH := Lib.hid hh; clear hh h30
  have Q := Lib.hid (show incP b xs = ((netL b xs).sum, (loadL b xs).sum, 0) by simp [incP, hp])
  go_enter Try.func52, Try.ntmps52
  go_wp2_with (refine wpList_load_agg rfl 28 _ rfl ⟨w.heap.size, 0, none⟩ rfl [.int .i64 b.first, .slice A n cap, .int .i64 b.rate] hcB0.out _ Try.underlying28 rfl Bas.size ?_)
  refine (spec_IsPortfolio_any b A n cap H m hcap xs _ HBT.out HL.out hm HX.out HF.out).mono ?_
  rw [hp]
  rintro e w1 ⟨rfl, hb1⟩
  have HB1 := Lib.hid (HB.out.below' hb1)
  have HBT1 := Lib.hid (HBT.out.past hb1)
  have HX1 := Lib.hid (HX.out.past hb1)
  have hb01 := hbw.trans (hb1.mono hbw.size)
  go_wp2
  go_loopw [7, 8, 9] (fun s t i wr => ∃ k : Nat, k ≤ m ∧ i = .int .i64 k ∧ s = .int .i64 ((netL b xs).take k).sum ∧ t = .int .i64 ((loadL b xs).take k).sum ∧ Below w1.heap.size w1 wr) (fun _ _ i _ => m - (intOf i).toNat)
  case atStart => exact ⟨0, by omega, rfl, rfl, rfl, Below.refl _ _⟩
  case round =>
    obtain ⟨k, hk, rfl, rfl, rfl, hb⟩ := hrel
    by_cases hlt : k < m
    · obtain ⟨x, hx⟩ := get_of_lt (xs := xs) (k := k) (by rw [HL.out]; exact hlt)
      obtain ⟨ad, rfl, had, _, hc⟩ := (HX1.out.past hb).at' (holdingRows_get hx)
      have HE := Lib.hid (sum_snoc (netL_get (b := b) hx))
      have HE2 := Lib.hid (sum_snoc (loadL_get (b := b) hx))
      have Hx := Lib.hid (HH.out x (List.mem_of_getElem? hx)); clear hx
      have hbd := HS.out (k + 1)
      rw [HE.out] at hbd
      have hbd2 := HS2.out (k + 1)
      rw [HE2.out] at hbd2
      obtain ⟨b1, b2⟩ := hbd
      obtain ⟨b3, b4⟩ := hbd2
      obtain ⟨⟨p1, p2⟩, ⟨p3, p4⟩, ⟨p5, p6⟩, p7, p8⟩ := prem_bound Hx.out
      have HP := Lib.hid (pol_ok (hold_pol Hx.out))
      have HBr := Lib.hid (HB1.out.below' hb)
      have HBTr := Lib.hid (HBT1.out.past hb)
      have hcB := Lib.hid (Blk.agg_past (cs := [.int .i64 b.first, .slice A n cap, .int .i64 b.rate]) HBr.out 0 [.int .i64 b.first, .slice A n cap, .int .i64 b.rate] rfl)
      have hcQ := Lib.hid (Past.cells' (Holding.pol_cells hc))
      have c6 := (Holding.cells hc).2.2.2.2.2.2
      have Hc := Lib.hid hc; clear hc
      have d6 := fun y : Past wr => Past.cell c6 y
      clear c6
      go_wp2
      refine wp_region_past (by kernel_rfl) (by kernel_rfl) ?_
      repeat (first | (go_big_quiet_want; (first | (first | (refine quiet_load_agg 28 _ rfl ⟨w.heap.size, 0, none⟩ rfl [.int .i64 b.first, .slice A n cap, .int .i64 b.rate] hcB.out _ Try.underlying28 rfl Bas.size ?_) | (refine quiet_load_agg 35 _ rfl (ad.add (k * 7)) rfl x.pol.row hcQ.out _ Try.underlying35 rfl Policy.size ?_))); go_simp; go_big_quiet_on) | go_big_quiet_step ((go_at_call 105; exact past_call (spec_l10Net_any b A n cap x.pol _ (HBTr.out.at_past _) HP.out))))
      refine wpQuiet_nil ?_
      rintro _ ⟨y, rfl⟩
      have e6 := d6 y
      have hcQ2 := Lib.hid (Past.cells' (Holding.pol_cells (fun j v hv => (Past.cells' Hc.out) y.1 ⟨y, rfl⟩ j v hv)))
      have hcB2 := Lib.hid (Blk.agg_past (cs := [.int .i64 b.first, .slice A n cap, .int .i64 b.rate]) (HBr.out.below' y.2) 0 [.int .i64 b.first, .slice A n cap, .int .i64 b.rate] rfl)
      have HBTy := Lib.hid (HBTr.out.past y.2)
      have f6 := fun z : Past y.1 => Past.cell e6 z
      clear d6
      go_wp2
      refine wp_region_past (by kernel_rfl) (by kernel_rfl) ?_
      repeat (first | (go_big_quiet_want; (first | (first | (refine quiet_load_agg 28 _ rfl ⟨w.heap.size, 0, none⟩ rfl [.int .i64 b.first, .slice A n cap, .int .i64 b.rate] hcB2.out _ Try.underlying28 rfl Bas.size ?_) | (refine quiet_load_agg 35 _ rfl (ad.add (k * 7)) rfl x.pol.row hcQ2.out _ Try.underlying35 rfl Policy.size ?_))); go_simp; go_big_quiet_on) | go_big_quiet_step ((go_at_call 98; exact past_call (spec_l10Office_any b A n cap x.pol _ (HBTy.out.at_past _) HP.out))))
      refine wpQuiet_nil ?_
      rintro _ ⟨z, rfl⟩
      go_wp2
      go_roundw
      case rel => exact ⟨k + 1, by omega, by go_num, by rw [HE.out], by rw [HE2.out], (hb.trans (y.2.mono hb.size)).trans (z.2.mono (Nat.le_trans hb.size y.2.size))⟩
      case measure => simp [intOf]; omega
    · have hkn : k = m := by omega
      subst hkn
      go_wp2
      go_ret3
      exact ⟨by rw [Q.out, take_all (by rw [netL, List.length_map]; exact HL.out), take_all (by rw [loadL, List.length_map]; exact HL.out)]; rfl, hb01.trans (hb.mono hb01.size)⟩

set_option maxHeartbeats 8000000 in
theorem impl_premiumIncome_any (b : Bas) (A : Option Addr) (n cap : Nat) (H : Option Addr) (m hcap : Nat) (xs : List Holding) (w : World) (hB : BasT w A n cap b) (hl : xs.length = m) (hm : m ≤ 30) (hX : Rd w w.heap.size H 7 (holdingRows xs)) (hh : ∀ x ∈ xs, holdB b x = true) :
    Calls Try.prog 104 #[.agg #[.int .i64 b.first, .slice A n cap, .int .i64 b.rate], .slice H m hcap] w fun e w' => e = .returned (.tuple #[.int .i64 (netL b xs).sum, .int .i64 (loadL b xs).sum]) ∧ Below w.heap.size w w' := by
  have hbw : Below w.heap.size w (w.alloc (.cells #[.int .i64 b.first, .slice A n cap, .int .i64 b.rate] 28)) := (Below.refl _ w).alloc (Nat.le_refl _) _
  have HB := Lib.hid (Blk.new w 28 #[.int .i64 b.first, .slice A n cap, .int .i64 b.rate])
  have HBT := Lib.hid (hB.past hbw); clear hB
  have HX := Lib.hid (hX.past hbw); clear hX
  have HL := Lib.hid hl; clear hl
  have h30 : xs.length ≤ 30 := by have := HL.out; omega
  have HS := Lib.hid (netL_sums h30 hh)
  have HS2 := Lib.hid (loadL_sums h30 hh)
  have HH := Lib.hid hh; clear hh h30
  go_enter Try.func104, Try.ntmps104
  go_wp2
  go_loopw [6, 7, 13] (fun s t i wr => ∃ k : Nat, k ≤ m ∧ i = .int .i64 k ∧ s = .int .i64 ((netL b xs).take k).sum ∧ t = .int .i64 ((loadL b xs).take k).sum ∧ Below (w.alloc (.cells #[.int .i64 b.first, .slice A n cap, .int .i64 b.rate] 28)).heap.size (w.alloc (.cells #[.int .i64 b.first, .slice A n cap, .int .i64 b.rate] 28)) wr) (fun _ _ i _ => m - (intOf i).toNat)
  case atStart => exact ⟨0, by omega, rfl, rfl, rfl, Below.refl _ _⟩
  case round =>
    obtain ⟨k, hk, rfl, rfl, rfl, hb⟩ := hrel
    by_cases hlt : k < m
    · obtain ⟨x, hx⟩ := get_of_lt (xs := xs) (k := k) (by rw [HL.out]; exact hlt)
      obtain ⟨ad, rfl, had, _, hc⟩ := (HX.out.past hb).at' (holdingRows_get hx)
      have HE := Lib.hid (sum_snoc (netL_get (b := b) hx))
      have HE2 := Lib.hid (sum_snoc (loadL_get (b := b) hx))
      have Hx := Lib.hid (HH.out x (List.mem_of_getElem? hx)); clear hx
      have Hc := Lib.hid hc; clear hc
      have hbd := HS.out (k + 1)
      rw [HE.out] at hbd
      have hbd2 := HS2.out (k + 1)
      rw [HE2.out] at hbd2
      obtain ⟨b1, b2⟩ := hbd
      obtain ⟨b3, b4⟩ := hbd2
      obtain ⟨⟨p1, p2⟩, ⟨p3, p4⟩, ⟨p5, p6⟩, p7, p8⟩ := prem_bound Hx.out
      have HP := Lib.hid (hold_pol Hx.out)
      have hbn : Below wr.heap.size wr (wr.alloc (.cells #[.int .i64 x.kind, .int .i64 x.age, .int .i64 x.years, .int .i64 x.sum, .int .i64 x.load, .int .i64 x.year, .int .i64 x.count] 37)) := (Below.refl _ wr).alloc (Nat.le_refl _) _
      have HBn := Lib.hid ((HB.out.below' hb).below' hbn)
      have HNn := Lib.hid (Blk.new wr 37 #[.int .i64 x.kind, .int .i64 x.age, .int .i64 x.years, .int .i64 x.sum, .int .i64 x.load, .int .i64 x.year, .int .i64 x.count])
      have HBTn := Lib.hid ((HBT.out.past hb).past hbn)
      have hcB := Lib.hid (Blk.agg (cs := [.int .i64 b.first, .slice A n cap, .int .i64 b.rate]) HBn.out 0 [.int .i64 b.first, .slice A n cap, .int .i64 b.rate] rfl)
      have hcP := Lib.hid (Blk.agg (cs := [.int .i64 x.kind, .int .i64 x.age, .int .i64 x.years, .int .i64 x.sum, .int .i64 x.load, .int .i64 x.year, .int .i64 x.count]) HNn.out 0 [.int .i64 x.kind, .int .i64 x.age, .int .i64 x.years, .int .i64 x.sum, .int .i64 x.load] rfl)
      go_wp2_with (first | (refine wpList_load_agg rfl 37 _ rfl (ad.add (k * 7)) rfl [.int .i64 x.kind, .int .i64 x.age, .int .i64 x.years, .int .i64 x.sum, .int .i64 x.load, .int .i64 x.year, .int .i64 x.count] Hc.out _ Try.underlying37 rfl Holding.size ?_) | (refine wpList_load_agg rfl 28 _ rfl ⟨w.heap.size, 0, none⟩ rfl [.int .i64 b.first, .slice A n cap, .int .i64 b.rate] hcB.out _ Try.underlying28 rfl Bas.size ?_) | (refine wpList_load_agg rfl 35 _ rfl ⟨wr.heap.size, 0, none⟩ rfl [.int .i64 x.kind, .int .i64 x.age, .int .i64 x.years, .int .i64 x.sum, .int .i64 x.load] hcP.out _ Try.underlying35 rfl Policy.size ?_))
      refine (impl_netPremium_any b A n cap x.pol _ HBTn.out HP.out).mono ?_
      rintro e w2 ⟨rfl, hb2⟩
      have hbm := hbn.trans (hb2.mono hbn.size)
      have hb6 := hb.trans (hbm.mono hb.size)
      have HB2 := Lib.hid (HBn.out.below' hb2)
      have HN2 := Lib.hid (HNn.out.below' hb2)
      have HBT2 := Lib.hid (HBTn.out.past hb2)
      have c6 : w2.cell? ⟨wr.heap.size, 6, none⟩ = some (.int .i64 x.count) := HN2.out.cell 6
      have d6 := fun y : Past w2 => Past.cell c6 y
      clear hcB hcP
      have hcB := Lib.hid (Blk.agg_past (cs := [.int .i64 b.first, .slice A n cap, .int .i64 b.rate]) HB2.out 0 [.int .i64 b.first, .slice A n cap, .int .i64 b.rate] rfl)
      have hcP := Lib.hid (Blk.agg_past (cs := [.int .i64 x.kind, .int .i64 x.age, .int .i64 x.years, .int .i64 x.sum, .int .i64 x.load, .int .i64 x.year, .int .i64 x.count]) HN2.out 0 [.int .i64 x.kind, .int .i64 x.age, .int .i64 x.years, .int .i64 x.sum, .int .i64 x.load] rfl)
      go_wp2
      refine wp_region_past (by kernel_rfl) (by kernel_rfl) ?_
      repeat (first | (go_big_quiet_want; (first | (first | (refine quiet_load_agg 28 _ rfl ⟨w.heap.size, 0, none⟩ rfl [.int .i64 b.first, .slice A n cap, .int .i64 b.rate] hcB.out _ Try.underlying28 rfl Bas.size ?_) | (refine quiet_load_agg 35 _ rfl ⟨wr.heap.size, 0, none⟩ rfl [.int .i64 x.kind, .int .i64 x.age, .int .i64 x.years, .int .i64 x.sum, .int .i64 x.load] hcP.out _ Try.underlying35 rfl Policy.size ?_))); go_simp; go_big_quiet_on) | go_big_quiet_step ((go_at_call 97; exact past_call (impl_officePremium_any b A n cap x.pol _ (HBT2.out.at_past _) HP.out))))
      refine wpQuiet_nil ?_
      rintro _ ⟨y, rfl⟩
      go_wp2
      go_roundw
      case rel => exact ⟨k + 1, by omega, by go_num, by rw [HE.out], by rw [HE2.out], hb6.trans (y.2.mono hb6.size)⟩
      case measure => simp [intOf]; omega
    · have hkn : k = m := by omega
      subst hkn
      go_wp2
      go_ret2
      exact ⟨by rw [take_all (by rw [netL, List.length_map]; exact HL.out), take_all (by rw [loadL, List.length_map]; exact HL.out)]; rfl, hbw.trans (hb.mono hbw.size)⟩

set_option maxHeartbeats 4000000 in
theorem impl_PremiumIncome_any (b : Bas) (A : Option Addr) (n cap : Nat) (H : Option Addr) (m hcap : Nat) (xs : List Holding) (w : World) (hB : BasT w A n cap b) (hl : xs.length = m) (hm : m ≤ 1048576) (hX : Rd w w.heap.size H 7 (holdingRows xs)) (hf : ∀ x ∈ xs, x.fits) :
    Calls Try.prog 51 #[.agg #[.int .i64 b.first, .slice A n cap, .int .i64 b.rate], .slice H m hcap] w fun e w' => e = .returned (.tuple #[.int .i64 (incP b xs).1, .int .i64 (incP b xs).2.1, .int .i64 (incP b xs).2.2]) ∧ Below w.heap.size w w' := by
  have hbw : Below w.heap.size w (w.alloc (.cells #[.int .i64 b.first, .slice A n cap, .int .i64 b.rate] 28)) := (Below.refl _ w).alloc (Nat.le_refl _) _
  have HB := Lib.hid (Blk.new w 28 #[.int .i64 b.first, .slice A n cap, .int .i64 b.rate])
  have HBT := Lib.hid (hB.past hbw); clear hB
  have HX := Lib.hid (hX.past hbw); clear hX
  have HL := Lib.hid hl; clear hl
  have HF := Lib.hid hf; clear hf
  have hcB0 := Lib.hid (Blk.agg (cs := [.int .i64 b.first, .slice A n cap, .int .i64 b.rate]) HB.out 0 [.int .i64 b.first, .slice A n cap, .int .i64 b.rate] rfl)
  cases hp : portB b xs
  · have Q := Lib.hid (show incP b xs = (0, 0, 1) by simp [incP, hp])
    go_enter Try.func51, Try.ntmps51
    go_wp2_with (refine wpList_load_agg rfl 28 _ rfl ⟨w.heap.size, 0, none⟩ rfl [.int .i64 b.first, .slice A n cap, .int .i64 b.rate] hcB0.out _ Try.underlying28 rfl Bas.size ?_)
    refine (impl_IsPortfolio_any b A n cap H m hcap xs _ HBT.out HL.out hm HX.out HF.out).mono ?_
    rw [hp]
    rintro e w1 ⟨rfl, hb1⟩
    go_wp2
    go_ret3
    exact ⟨by rw [Q.out]; rfl, hbw.trans (hb1.mono hbw.size)⟩
  obtain ⟨h30, hh⟩ := port_hold hp
  have HH := Lib.hid hh; clear hh
  have hm30 : m ≤ 30 := by have := HL.out; omega
  have Q := Lib.hid (show incP b xs = ((netL b xs).sum, (loadL b xs).sum, 0) by simp [incP, hp])
  go_enter Try.func51, Try.ntmps51
  go_wp2_with (refine wpList_load_agg rfl 28 _ rfl ⟨w.heap.size, 0, none⟩ rfl [.int .i64 b.first, .slice A n cap, .int .i64 b.rate] hcB0.out _ Try.underlying28 rfl Bas.size ?_)
  refine (impl_IsPortfolio_any b A n cap H m hcap xs _ HBT.out HL.out hm HX.out HF.out).mono ?_
  rw [hp]
  rintro e w1 ⟨rfl, hb1⟩
  have HBT1 := Lib.hid (HBT.out.past hb1)
  have HX1 := Lib.hid (HX.out.past hb1)
  have hb01 := hbw.trans (hb1.mono hbw.size)
  have hcB1 := Lib.hid (Blk.agg (cs := [.int .i64 b.first, .slice A n cap, .int .i64 b.rate]) (HB.out.below' hb1) 0 [.int .i64 b.first, .slice A n cap, .int .i64 b.rate] rfl)
  go_wp2_with (refine wpList_load_agg rfl 28 _ rfl ⟨w.heap.size, 0, none⟩ rfl [.int .i64 b.first, .slice A n cap, .int .i64 b.rate] hcB1.out _ Try.underlying28 rfl Bas.size ?_)
  refine (impl_premiumIncome_any b A n cap H m hcap xs _ HBT1.out HL.out hm30 HX1.out HH.out).mono ?_
  rintro e w2 ⟨rfl, hb2⟩
  go_wp2
  go_ret3
  exact ⟨by rw [Q.out]; rfl, hb01.trans (hb2.mono hb01.size)⟩

end Go.Proofs.Ytbjdbpdgacfcpaa
end

/- A portfolio grown older: what its law asks. No program. -/
section
namespace Go.Proofs.Ytbjdbpdgacfcpaa

def offV (b : Bas) (h : Holding) : Int := h.count * officeP b h.pol
def offL (b : Bas) (xs : List Holding) : List Int := xs.map (offV b)
theorem offL_get {b : Bas} {xs : List Holding} {k : Nat} {x : Holding} (h : xs[k]? = some x) : (offL b xs)[k]? = some (x.count * officeP b x.pol) := by simp [offL, offV, h]
theorem off_bound {b : Bas} {h : Holding} (H : holdB b h = true) : (0 ≤ officeP b h.pol ∧ officeP b h.pol ≤ 300000000) ∧ 0 ≤ h.count * officeP b h.pol ∧ h.count * officeP b h.pol ≤ 400000000000000 := by
  obtain ⟨n1, l1, n2, l2⟩ := prem_bound H
  have e : h.count * officeP b h.pol = h.count * netP b h.pol + h.count * (officeP b h.pol - netP b h.pol) := by rw [← Int.mul_add]; congr 1; omega
  omega
theorem offL_sums {b : Bas} {xs : List Holding} (hl : xs.length ≤ 30) (hh : ∀ x ∈ xs, holdB b x = true) : Sums (offL b xs) :=
  (sums_of (n := 30) (hi := 400000000000000) (by omega) (by simpa [offL] using hl) (fun v hv => by
    obtain ⟨x, hx, rfl⟩ := List.mem_map.1 hv
    exact (off_bound (hh x hx)).2) (by omega)).1
theorem off_sum (b : Bas) : ∀ xs : List Holding, (offL b xs).sum = (netL b xs).sum + (loadL b xs).sum
  | [] => rfl
  | x :: xs => by
    have h := off_sum b xs
    have e : x.count * officeP b x.pol = x.count * netP b x.pol + x.count * (officeP b x.pol - netP b x.pol) := by rw [← Int.mul_add]; congr 1; omega
    simp only [offL, netL, loadL, offV, netV, loadV, List.map_cons, List.sum_cons] at h ⊢
    omega
theorem inc_code {b : Bas} {xs : List Holding} (h : (incP b xs).2.2 = 0) : portB b xs = true ∧ (incP b xs).1 = (netL b xs).sum ∧ (incP b xs).2.1 = (loadL b xs).sum := by
  unfold incP at h ⊢
  by_cases hp : portB b xs = true
  · rw [if_pos hp]; exact ⟨hp, rfl, rfl⟩
  · rw [if_neg hp] at h; simp at h
theorem age_code {b : Bas} {xs : List Holding} {ds : List Int} (h : (ageP b xs ds).2 = 0) : deathCode b xs ds = 0 ∧ (xs.zip ds).any (fun p => stuckB b p.1 p.2) = false ∧ (ageP b xs ds).1 = olderL b (xs.zip ds) := by
  unfold ageP at h ⊢
  by_cases h1 : deathCode b xs ds = 0
  · rw [if_pos h1] at h ⊢
    by_cases h2 : (xs.zip ds).any (fun p => stuckB b p.1 p.2) = true
    · rw [if_pos h2] at h; simp at h
    · rw [if_neg h2]; exact ⟨h1, by simpa using h2, rfl⟩
  · rw [if_neg h1] at h; exact absurd h h1
theorem left_bound9 {b : Bas} {xs : List Holding} {ds : List Int} (hp : portB b xs = true) (hd : deadB xs ds = true) : ∀ v ∈ leftL b xs ds, 0 ≤ v ∧ v ≤ 1000000 := by
  intro v hv
  obtain ⟨⟨x, d⟩, hm, rfl⟩ := List.mem_map.1 hv
  have h1 := inR_true.1 (List.all_eq_true.1 hd _ hm)
  have h2 := (hold_ok ((port_hold hp).2 x (List.of_mem_zip hm).1)).1
  simp only at h1
  unfold leftV
  simp only
  split <;> omega
theorem leftL_sums {b : Bas} {xs : List Holding} {ds : List Int} (hp : portB b xs = true) (hd : deadB xs ds = true) : Sums (leftL b xs ds) :=
  (sums_of (n := 30) (hi := 1000000) (by omega) (by have := (port_hold hp).1; simp [leftL]; omega) (left_bound9 hp hd) (by omega)).1
theorem countL_get {xs : List Holding} {k : Nat} {x : Holding} (h : xs[k]? = some x) : (countL xs)[k]? = some x.count := by simp [countL, h]
theorem countL_sums {b : Bas} {xs : List Holding} (hp : portB b xs = true) : Sums (countL xs) :=
  (sums_of (n := 30) (hi := 1000000) (by omega) (by have := (port_hold hp).1; simpa [countL] using this) (fun v hv => by
    obtain ⟨x, hx, rfl⟩ := List.mem_map.1 hv
    exact (hold_ok ((port_hold hp).2 x hx)).1) (by omega)).1
/-- all that are left are in the older portfolio -/
theorem age_good {b : Bas} {xs : List Holding} {ds : List Int} (h : (ageP b xs ds).2 = 0) :
    portB b xs = true ∧ ds.length = xs.length ∧ deadB xs ds = true ∧ portB b (ageP b xs ds).1 = true ∧ (countL (ageP b xs ds).1).sum = (leftL b xs ds).sum := by
  obtain ⟨h1, h2, h3⟩ := age_code h
  obtain ⟨h4, h5, h6⟩ := deathCode_ok h1
  rw [h3]
  refine ⟨h4, h5, h6, older_port h1 h2, ?_⟩
  exact older_count _ fun p hp => (port_hold h4).2 p.1 (List.of_mem_zip hp).1
theorem leftL_no {b : Bas} {xs : List Holding} {ds : List Int} {k : Nat} {x : Holding} {d : Int} (hx : xs[k]? = some x) (hd : ds[k]? = some d) (h : ¬ x.year + 1 < durP b x.pol) : (leftL b xs ds)[k]? = some 0 := by
  rw [leftL_get hx hd, leftV, if_neg h]
theorem leftL_yes {b : Bas} {xs : List Holding} {ds : List Int} {k : Nat} {x : Holding} {d : Int} (hx : xs[k]? = some x) (hd : ds[k]? = some d) (h : x.year + 1 < durP b x.pol) : (leftL b xs ds)[k]? = some (x.count - d) := by
  rw [leftL_get hx hd, leftV, if_pos h]
end Go.Proofs.Ytbjdbpdgacfcpaa
end
