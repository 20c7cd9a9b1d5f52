/- Parts of a proof, one after another: Lv3, Lv5. No condition. -/
import Derived.Test.YtbjdbpdgacfcpaaK16
import Derived.Test.YtbjdbpdgacfcpaaK17
/- What leaving gives: the reference (printed by lv.py). -/
section
namespace Go.Proofs.Ytbjdbpdgacfcpaa
open Go.RowKit Go.BigFrame

set_option maxRecDepth 20000 in
set_option maxHeartbeats 8000000 in
theorem spec_l12Code_any (b : Bas) (A : Option Addr) (n cap : Nat) (p : Policy) (k : Int) (w : World) (hB : BasT w A n cap b) (hp : p.fits) (hk : In64 k) :
    Calls Try.prog 89 #[.agg #[.int .i64 b.first, .slice A n cap, .int .i64 b.rate], .agg p.row.toArray, .int .i64 k] w fun e w' => e = .returned (.int .i64 (leavCode b p k)) ∧ Below w.heap.size w w' := by
  unfold Policy.row
  have HB := Lib.hid (Below.refl w.heap.size w)
  have HH := Lib.hid (Held.nil w)
  have HT := Lib.hid hB; clear hB
  obtain ⟨hb, hr0, hr1⟩ := box2 (w := w) (tx := 28) (ty := 35) (X := [.int .i64 b.first, .slice A n cap, .int .i64 b.rate]) (Y := [.int .i64 p.kind, .int .i64 p.age, .int .i64 p.years, .int .i64 p.sum, .int .i64 p.load])
  replace HB := Lib.hid (below_all HB.out hb)
  replace HT := Lib.hid (HT.out.past hb)
  replace HH := Lib.hid (((HH.out.past hb).cons hr0).cons hr1)
  clear hb hr0 hr1
  by_cases h0 : resCode b p k = 0
  · skip
    have H0 := Lib.hid h0; clear h0
    by_cases h2 : k < 2
    · skip
      have Q := Lib.hid (show leavCode b p k = 4 by unfold leavCode; rw [if_pos H0.out, if_pos h2])
      have hkb : decide (k < 2) = true := by simp; omega
      clear h2
      go_enter Try.func89, Try.ntmps89
      have HL_bx := Lib.hid (Rd.box (HH.out.get 1 rfl))
      have HL_px := Lib.hid (Rd.box (HH.out.get 0 rfl))
      go_wp2_with (first | (refine wpList_load_agg rfl 28 _ rfl ⟨w.heap.size, 0, none⟩ rfl [.int .i64 b.first, .slice A n cap, .int .i64 b.rate] HL_bx.out _ Try.underlying28 rfl Bas.size ?_) | (refine wpList_load_agg rfl 35 _ rfl ⟨w.heap.size + 1, 0, none⟩ rfl [.int .i64 p.kind, .int .i64 p.age, .int .i64 p.years, .int .i64 p.sum, .int .i64 p.load] HL_px.out _ Try.underlying35 rfl Policy.size ?_))
      clear HL_bx HL_px
      generalize ((w.alloc (.cells #[.int .i64 b.first, .slice A n cap, .int .i64 b.rate] 28)).alloc (.cells #[.int .i64 p.kind, .int .i64 p.age, .int .i64 p.years, .int .i64 p.sum, .int .i64 p.load] 35)) = v0 at HB HH HT ⊢
      generalize w.heap.size + 1 = g0_1 at HH ⊢
      generalize w.heap.size = g0_0 at HH ⊢
      refine (spec_l11Code_any b A n cap p k _ HT.out hp hk).mono ?_
      rw [H0.out]
      rintro e w1 ⟨rfl, hb⟩
      replace HB := Lib.hid (below_all HB.out hb)
      replace HT := Lib.hid (HT.out.past hb)
      replace HH := Lib.hid (HH.out.past hb)
      clear hb
      go_wp2
      go_ret
      exact ⟨by rw [Q.out]; rfl, HB.out⟩
    · skip
      have Q := Lib.hid (show leavCode b p k = 0 by unfold leavCode; rw [if_pos H0.out, if_neg h2])
      have hkb : decide (k < 2) = false := by simp; omega
      clear h2
      go_enter Try.func89, Try.ntmps89
      have HL_bx := Lib.hid (Rd.box (HH.out.get 1 rfl))
      have HL_px := Lib.hid (Rd.box (HH.out.get 0 rfl))
      go_wp2_with (first | (refine wpList_load_agg rfl 28 _ rfl ⟨w.heap.size, 0, none⟩ rfl [.int .i64 b.first, .slice A n cap, .int .i64 b.rate] HL_bx.out _ Try.underlying28 rfl Bas.size ?_) | (refine wpList_load_agg rfl 35 _ rfl ⟨w.heap.size + 1, 0, none⟩ rfl [.int .i64 p.kind, .int .i64 p.age, .int .i64 p.years, .int .i64 p.sum, .int .i64 p.load] HL_px.out _ Try.underlying35 rfl Policy.size ?_))
      clear HL_bx HL_px
      generalize ((w.alloc (.cells #[.int .i64 b.first, .slice A n cap, .int .i64 b.rate] 28)).alloc (.cells #[.int .i64 p.kind, .int .i64 p.age, .int .i64 p.years, .int .i64 p.sum, .int .i64 p.load] 35)) = v0 at HB HH HT ⊢
      generalize w.heap.size + 1 = g0_1 at HH ⊢
      generalize w.heap.size = g0_0 at HH ⊢
      refine (spec_l11Code_any b A n cap p k _ HT.out hp hk).mono ?_
      rw [H0.out]
      rintro e w1 ⟨rfl, hb⟩
      replace HB := Lib.hid (below_all HB.out hb)
      replace HT := Lib.hid (HT.out.past hb)
      replace HH := Lib.hid (HH.out.past hb)
      clear hb
      go_wp2
      go_ret
      exact ⟨by rw [Q.out]; rfl, HB.out⟩
  · skip
    have Q := Lib.hid (show leavCode b p k = resCode b p k by unfold leavCode; rw [if_neg h0])
    have hz : (resCode b p k == 0) = false := by simpa using h0
    go_enter Try.func89, Try.ntmps89
    have HL_bx := Lib.hid (Rd.box (HH.out.get 1 rfl))
    have HL_px := Lib.hid (Rd.box (HH.out.get 0 rfl))
    go_wp2_with (first | (refine wpList_load_agg rfl 28 _ rfl ⟨w.heap.size, 0, none⟩ rfl [.int .i64 b.first, .slice A n cap, .int .i64 b.rate] HL_bx.out _ Try.underlying28 rfl Bas.size ?_) | (refine wpList_load_agg rfl 35 _ rfl ⟨w.heap.size + 1, 0, none⟩ rfl [.int .i64 p.kind, .int .i64 p.age, .int .i64 p.years, .int .i64 p.sum, .int .i64 p.load] HL_px.out _ Try.underlying35 rfl Policy.size ?_))
    clear HL_bx HL_px
    generalize ((w.alloc (.cells #[.int .i64 b.first, .slice A n cap, .int .i64 b.rate] 28)).alloc (.cells #[.int .i64 p.kind, .int .i64 p.age, .int .i64 p.years, .int .i64 p.sum, .int .i64 p.load] 35)) = v0 at HB HH HT ⊢
    generalize w.heap.size + 1 = g0_1 at HH ⊢
    generalize w.heap.size = g0_0 at HH ⊢
    refine (spec_l11Code_any b A n cap p k _ HT.out hp hk).mono ?_
    rintro e w1 ⟨rfl, hb⟩
    replace HB := Lib.hid (below_all HB.out hb)
    replace HT := Lib.hid (HT.out.past hb)
    replace HH := Lib.hid (HH.out.past hb)
    clear hb
    clear h0
    go_wp2
    go_ret
    exact ⟨by rw [Q.out]; rfl, HB.out⟩
set_option maxRecDepth 20000 in
set_option maxHeartbeats 8000000 in
theorem spec_l12Value_any (b : Bas) (A : Option Addr) (n cap : Nat) (p : Policy) (k : Int) (w : World) (hB : BasT w A n cap b) (Y : YearOk b p k) :
    Calls Try.prog 92 #[.agg #[.int .i64 b.first, .slice A n cap, .int .i64 b.rate], .agg p.row.toArray, .int .i64 k] w fun e w' => e = .returned (.int .i64 (valV b p k)) ∧ Below w.heap.size w w' := by
  unfold Policy.row
  have HB := Lib.hid (Below.refl w.heap.size w)
  have HH := Lib.hid (Held.nil w)
  have HT := Lib.hid hB; clear hB
  obtain ⟨hb, hr0, hr1⟩ := box2 (w := w) (tx := 28) (ty := 35) (X := [.int .i64 b.first, .slice A n cap, .int .i64 b.rate]) (Y := [.int .i64 p.kind, .int .i64 p.age, .int .i64 p.years, .int .i64 p.sum, .int .i64 p.load])
  replace HB := Lib.hid (below_all HB.out hb)
  replace HT := Lib.hid (HT.out.past hb)
  replace HH := Lib.hid (((HH.out.past hb).cons hr0).cons hr1)
  clear hb hr0 hr1
  have HY := Lib.hid Y
  obtain ⟨⟨r0, r1⟩, _, _⟩ := val_bound Y
  clear Y
  have Q := Lib.hid (show valV b p k = resAt b p k * 900 / 1000 from rfl)
  go_enter Try.func92, Try.ntmps92
  have HL_bx := Lib.hid (Rd.box (HH.out.get 1 rfl))
  have HL_px := Lib.hid (Rd.box (HH.out.get 0 rfl))
  go_wp2_with (first | (refine wpList_load_agg rfl 28 _ rfl ⟨w.heap.size, 0, none⟩ rfl [.int .i64 b.first, .slice A n cap, .int .i64 b.rate] HL_bx.out _ Try.underlying28 rfl Bas.size ?_) | (refine wpList_load_agg rfl 35 _ rfl ⟨w.heap.size + 1, 0, none⟩ rfl [.int .i64 p.kind, .int .i64 p.age, .int .i64 p.years, .int .i64 p.sum, .int .i64 p.load] HL_px.out _ Try.underlying35 rfl Policy.size ?_))
  clear HL_bx HL_px
  generalize ((w.alloc (.cells #[.int .i64 b.first, .slice A n cap, .int .i64 b.rate] 28)).alloc (.cells #[.int .i64 p.kind, .int .i64 p.age, .int .i64 p.years, .int .i64 p.sum, .int .i64 p.load] 35)) = v0 at HB HH HT ⊢
  generalize w.heap.size + 1 = g0_1 at HH ⊢
  generalize w.heap.size = g0_0 at HH ⊢
  refine (spec_l11At_any b A n cap p k _ HT.out HY.out).mono ?_
  rintro e w1 ⟨rfl, hb⟩
  replace HB := Lib.hid (below_all HB.out hb)
  replace HT := Lib.hid (HT.out.past hb)
  replace HH := Lib.hid (HH.out.past hb)
  clear hb
  go_wp2
  go_ret
  exact ⟨by rw [Q.out]; rfl, HB.out⟩
set_option maxRecDepth 20000 in
set_option maxHeartbeats 8000000 in
theorem spec_SurrenderValue_any (b : Bas) (A : Option Addr) (n cap : Nat) (p : Policy) (k : Int) (w : World) (hB : BasT w A n cap b) (hp : p.fits) (hk : In64 k) :
    Calls Try.prog 36 #[.agg #[.int .i64 b.first, .slice A n cap, .int .i64 b.rate], .agg p.row.toArray, .int .i64 k] w fun e w' => e = .returned (.tuple #[.int .i64 (surP b p k).1, .int .i64 (surP b p k).2]) ∧ Below w.heap.size w w' := by
  unfold Policy.row
  have HB := Lib.hid (Below.refl w.heap.size w)
  have HH := Lib.hid (Held.nil w)
  have HT := Lib.hid hB; clear hB
  obtain ⟨hb, hr0, hr1⟩ := box2 (w := w) (tx := 28) (ty := 35) (X := [.int .i64 b.first, .slice A n cap, .int .i64 b.rate]) (Y := [.int .i64 p.kind, .int .i64 p.age, .int .i64 p.years, .int .i64 p.sum, .int .i64 p.load])
  replace HB := Lib.hid (below_all HB.out hb)
  replace HT := Lib.hid (HT.out.past hb)
  replace HH := Lib.hid (((HH.out.past hb).cons hr0).cons hr1)
  clear hb hr0 hr1
  by_cases h0 : leavCode b p k = 0
  · skip
    have Q := Lib.hid (show surP b p k = (valV b p k, 0) by unfold surP; rw [if_pos h0])
    have HY := Lib.hid (year_ok (leav_ok h0).1)
    obtain ⟨⟨r0, r1⟩, v0, v1⟩ := val_bound HY.out
    have hpo := part_ok HY.out (net_bound HY.out.toPolOk)
    have t0 := hpo.t0; have t1 := hpo.t1; have t2 := hpo.d0; have t3 := hpo.d1; have s1 := hpo.s1; have s0 := HY.out.sum0
    clear hpo
    have H0 := Lib.hid h0; clear h0
    go_enter Try.func36, Try.ntmps36
    have HL_bx := Lib.hid (Rd.box (HH.out.get 1 rfl))
    have HL_px := Lib.hid (Rd.box (HH.out.get 0 rfl))
    go_wp2_with (first | (refine wpList_load_agg rfl 28 _ rfl ⟨w.heap.size, 0, none⟩ rfl [.int .i64 b.first, .slice A n cap, .int .i64 b.rate] HL_bx.out _ Try.underlying28 rfl Bas.size ?_) | (refine wpList_load_agg rfl 35 _ rfl ⟨w.heap.size + 1, 0, none⟩ rfl [.int .i64 p.kind, .int .i64 p.age, .int .i64 p.years, .int .i64 p.sum, .int .i64 p.load] HL_px.out _ Try.underlying35 rfl Policy.size ?_))
    clear HL_bx HL_px
    generalize ((w.alloc (.cells #[.int .i64 b.first, .slice A n cap, .int .i64 b.rate] 28)).alloc (.cells #[.int .i64 p.kind, .int .i64 p.age, .int .i64 p.years, .int .i64 p.sum, .int .i64 p.load] 35)) = v0 at HB HH HT ⊢
    generalize w.heap.size + 1 = g0_1 at HH ⊢
    generalize w.heap.size = g0_0 at HH ⊢
    refine (spec_l12Code_any b A n cap p k _ HT.out hp hk).mono ?_
    rw [H0.out]
    rintro e w1 ⟨rfl, hb⟩
    replace HB := Lib.hid (below_all HB.out hb)
    replace HT := Lib.hid (HT.out.past hb)
    replace HH := Lib.hid (HH.out.past hb)
    clear hb
    have HL_bx := Lib.hid (Rd.box (HH.out.get 1 rfl))
    have HL_px := Lib.hid (Rd.box (HH.out.get 0 rfl))
    go_wp2_with (first | (refine wpList_load_agg rfl 28 _ rfl ⟨g0_0, 0, none⟩ rfl [.int .i64 b.first, .slice A n cap, .int .i64 b.rate] HL_bx.out _ Try.underlying28 rfl Bas.size ?_) | (refine wpList_load_agg rfl 35 _ rfl ⟨g0_1, 0, none⟩ rfl [.int .i64 p.kind, .int .i64 p.age, .int .i64 p.years, .int .i64 p.sum, .int .i64 p.load] HL_px.out _ Try.underlying35 rfl Policy.size ?_))
    clear HL_bx HL_px
    refine (spec_l12Value_any b A n cap p k _ HT.out HY.out).mono ?_
    rintro e w2 ⟨rfl, hb⟩
    replace HB := Lib.hid (below_all HB.out hb)
    replace HT := Lib.hid (HT.out.past hb)
    replace HH := Lib.hid (HH.out.past hb)
    clear hb
    go_wp2
    go_ret2
    exact ⟨by rw [Q.out]; rfl, HB.out⟩
  · skip
    have Q := Lib.hid (show surP b p k = (0, leavCode b p k) by unfold surP; rw [if_neg h0])
    have hz : (leavCode b p k != 0) = true := by simpa [bne] using h0
    go_enter Try.func36, Try.ntmps36
    have HL_bx := Lib.hid (Rd.box (HH.out.get 1 rfl))
    have HL_px := Lib.hid (Rd.box (HH.out.get 0 rfl))
    go_wp2_with (first | (refine wpList_load_agg rfl 28 _ rfl ⟨w.heap.size, 0, none⟩ rfl [.int .i64 b.first, .slice A n cap, .int .i64 b.rate] HL_bx.out _ Try.underlying28 rfl Bas.size ?_) | (refine wpList_load_agg rfl 35 _ rfl ⟨w.heap.size + 1, 0, none⟩ rfl [.int .i64 p.kind, .int .i64 p.age, .int .i64 p.years, .int .i64 p.sum, .int .i64 p.load] HL_px.out _ Try.underlying35 rfl Policy.size ?_))
    clear HL_bx HL_px
    generalize ((w.alloc (.cells #[.int .i64 b.first, .slice A n cap, .int .i64 b.rate] 28)).alloc (.cells #[.int .i64 p.kind, .int .i64 p.age, .int .i64 p.years, .int .i64 p.sum, .int .i64 p.load] 35)) = v0 at HB HH HT ⊢
    generalize w.heap.size + 1 = g0_1 at HH ⊢
    generalize w.heap.size = g0_0 at HH ⊢
    refine (spec_l12Code_any b A n cap p k _ HT.out hp hk).mono ?_
    rintro e w1 ⟨rfl, hb⟩
    replace HB := Lib.hid (below_all HB.out hb)
    replace HT := Lib.hid (HT.out.past hb)
    replace HH := Lib.hid (HH.out.past hb)
    clear hb
    clear h0
    generalize hc : leavCode b p k = c at hz Q ⊢
    clear hc
    have hcc : (c == 0) = false := by simpa [bne] using hz
    go_wp2
    go_ret2
    exact ⟨by rw [Q.out]; rfl, HB.out⟩
set_option maxRecDepth 20000 in
set_option maxHeartbeats 8000000 in
theorem spec_LoanLimit_any (b : Bas) (A : Option Addr) (n cap : Nat) (p : Policy) (k : Int) (w : World) (hB : BasT w A n cap b) (hp : p.fits) (hk : In64 k) :
    Calls Try.prog 40 #[.agg #[.int .i64 b.first, .slice A n cap, .int .i64 b.rate], .agg p.row.toArray, .int .i64 k] w fun e w' => e = .returned (.tuple #[.int .i64 (loanP b p k).1, .int .i64 (loanP b p k).2]) ∧ Below w.heap.size w w' := by
  unfold Policy.row
  have HB := Lib.hid (Below.refl w.heap.size w)
  have HH := Lib.hid (Held.nil w)
  have HT := Lib.hid hB; clear hB
  obtain ⟨hb, hr0, hr1⟩ := box2 (w := w) (tx := 28) (ty := 35) (X := [.int .i64 b.first, .slice A n cap, .int .i64 b.rate]) (Y := [.int .i64 p.kind, .int .i64 p.age, .int .i64 p.years, .int .i64 p.sum, .int .i64 p.load])
  replace HB := Lib.hid (below_all HB.out hb)
  replace HT := Lib.hid (HT.out.past hb)
  replace HH := Lib.hid (((HH.out.past hb).cons hr0).cons hr1)
  clear hb hr0 hr1
  by_cases h0 : leavCode b p k = 0
  · skip
    have Q := Lib.hid (show loanP b p k = (valV b p k * 800 / 1000, 0) by unfold loanP; rw [if_pos h0])
    have HY := Lib.hid (year_ok (leav_ok h0).1)
    obtain ⟨⟨r0, r1⟩, v0, v1⟩ := val_bound HY.out
    have hpo := part_ok HY.out (net_bound HY.out.toPolOk)
    have t0 := hpo.t0; have t1 := hpo.t1; have t2 := hpo.d0; have t3 := hpo.d1; have s1 := hpo.s1; have s0 := HY.out.sum0
    clear hpo
    have H0 := Lib.hid h0; clear h0
    go_enter Try.func40, Try.ntmps40
    have HL_bx := Lib.hid (Rd.box (HH.out.get 1 rfl))
    have HL_px := Lib.hid (Rd.box (HH.out.get 0 rfl))
    go_wp2_with (first | (refine wpList_load_agg rfl 28 _ rfl ⟨w.heap.size, 0, none⟩ rfl [.int .i64 b.first, .slice A n cap, .int .i64 b.rate] HL_bx.out _ Try.underlying28 rfl Bas.size ?_) | (refine wpList_load_agg rfl 35 _ rfl ⟨w.heap.size + 1, 0, none⟩ rfl [.int .i64 p.kind, .int .i64 p.age, .int .i64 p.years, .int .i64 p.sum, .int .i64 p.load] HL_px.out _ Try.underlying35 rfl Policy.size ?_))
    clear HL_bx HL_px
    generalize ((w.alloc (.cells #[.int .i64 b.first, .slice A n cap, .int .i64 b.rate] 28)).alloc (.cells #[.int .i64 p.kind, .int .i64 p.age, .int .i64 p.years, .int .i64 p.sum, .int .i64 p.load] 35)) = v0 at HB HH HT ⊢
    generalize w.heap.size + 1 = g0_1 at HH ⊢
    generalize w.heap.size = g0_0 at HH ⊢
    refine (spec_l12Code_any b A n cap p k _ HT.out hp hk).mono ?_
    rw [H0.out]
    rintro e w1 ⟨rfl, hb⟩
    replace HB := Lib.hid (below_all HB.out hb)
    replace HT := Lib.hid (HT.out.past hb)
    replace HH := Lib.hid (HH.out.past hb)
    clear hb
    have HL_bx := Lib.hid (Rd.box (HH.out.get 1 rfl))
    have HL_px := Lib.hid (Rd.box (HH.out.get 0 rfl))
    go_wp2_with (first | (refine wpList_load_agg rfl 28 _ rfl ⟨g0_0, 0, none⟩ rfl [.int .i64 b.first, .slice A n cap, .int .i64 b.rate] HL_bx.out _ Try.underlying28 rfl Bas.size ?_) | (refine wpList_load_agg rfl 35 _ rfl ⟨g0_1, 0, none⟩ rfl [.int .i64 p.kind, .int .i64 p.age, .int .i64 p.years, .int .i64 p.sum, .int .i64 p.load] HL_px.out _ Try.underlying35 rfl Policy.size ?_))
    clear HL_bx HL_px
    refine (spec_l12Value_any b A n cap p k _ HT.out HY.out).mono ?_
    rintro e w2 ⟨rfl, hb⟩
    replace HB := Lib.hid (below_all HB.out hb)
    replace HT := Lib.hid (HT.out.past hb)
    replace HH := Lib.hid (HH.out.past hb)
    clear hb
    go_wp2
    go_ret2
    exact ⟨by rw [Q.out]; rfl, HB.out⟩
  · skip
    have Q := Lib.hid (show loanP b p k = (0, leavCode b p k) by unfold loanP; rw [if_neg h0])
    have hz : (leavCode b p k != 0) = true := by simpa [bne] using h0
    go_enter Try.func40, Try.ntmps40
    have HL_bx := Lib.hid (Rd.box (HH.out.get 1 rfl))
    have HL_px := Lib.hid (Rd.box (HH.out.get 0 rfl))
    go_wp2_with (first | (refine wpList_load_agg rfl 28 _ rfl ⟨w.heap.size, 0, none⟩ rfl [.int .i64 b.first, .slice A n cap, .int .i64 b.rate] HL_bx.out _ Try.underlying28 rfl Bas.size ?_) | (refine wpList_load_agg rfl 35 _ rfl ⟨w.heap.size + 1, 0, none⟩ rfl [.int .i64 p.kind, .int .i64 p.age, .int .i64 p.years, .int .i64 p.sum, .int .i64 p.load] HL_px.out _ Try.underlying35 rfl Policy.size ?_))
    clear HL_bx HL_px
    generalize ((w.alloc (.cells #[.int .i64 b.first, .slice A n cap, .int .i64 b.rate] 28)).alloc (.cells #[.int .i64 p.kind, .int .i64 p.age, .int .i64 p.years, .int .i64 p.sum, .int .i64 p.load] 35)) = v0 at HB HH HT ⊢
    generalize w.heap.size + 1 = g0_1 at HH ⊢
    generalize w.heap.size = g0_0 at HH ⊢
    refine (spec_l12Code_any b A n cap p k _ HT.out hp hk).mono ?_
    rintro e w1 ⟨rfl, hb⟩
    replace HB := Lib.hid (below_all HB.out hb)
    replace HT := Lib.hid (HT.out.past hb)
    replace HH := Lib.hid (HH.out.past hb)
    clear hb
    clear h0
    generalize hc : leavCode b p k = c at hz Q ⊢
    clear hc
    have hcc : (c == 0) = false := by simpa [bne] using hz
    go_wp2
    go_ret2
    exact ⟨by rw [Q.out]; rfl, HB.out⟩
set_option maxRecDepth 20000 in
set_option maxHeartbeats 8000000 in
theorem spec_LeavingLoss_any (b : Bas) (A : Option Addr) (n cap : Nat) (p : Policy) (k : Int) (w : World) (hB : BasT w A n cap b) (hp : p.fits) (hk : In64 k) :
    Calls Try.prog 38 #[.agg #[.int .i64 b.first, .slice A n cap, .int .i64 b.rate], .agg p.row.toArray, .int .i64 k] w fun e w' => e = .returned (.tuple #[.int .i64 (lossP b p k).1, .int .i64 (lossP b p k).2]) ∧ Below w.heap.size w w' := by
  unfold Policy.row
  have HB := Lib.hid (Below.refl w.heap.size w)
  have HH := Lib.hid (Held.nil w)
  have HT := Lib.hid hB; clear hB
  obtain ⟨hb, hr0, hr1⟩ := box2 (w := w) (tx := 28) (ty := 35) (X := [.int .i64 b.first, .slice A n cap, .int .i64 b.rate]) (Y := [.int .i64 p.kind, .int .i64 p.age, .int .i64 p.years, .int .i64 p.sum, .int .i64 p.load])
  replace HB := Lib.hid (below_all HB.out hb)
  replace HT := Lib.hid (HT.out.past hb)
  replace HH := Lib.hid (((HH.out.past hb).cons hr0).cons hr1)
  clear hb hr0 hr1
  by_cases h0 : leavCode b p k = 0
  · skip
    have Q := Lib.hid (show lossP b p k = (resAt b p k - valV b p k, 0) by unfold lossP; rw [if_pos h0])
    have HY := Lib.hid (year_ok (leav_ok h0).1)
    obtain ⟨⟨r0, r1⟩, v0, v1⟩ := val_bound HY.out
    have hpo := part_ok HY.out (net_bound HY.out.toPolOk)
    have t0 := hpo.t0; have t1 := hpo.t1; have t2 := hpo.d0; have t3 := hpo.d1; have s1 := hpo.s1; have s0 := HY.out.sum0
    clear hpo
    have H0 := Lib.hid h0; clear h0
    go_enter Try.func38, Try.ntmps38
    have HL_bx := Lib.hid (Rd.box (HH.out.get 1 rfl))
    have HL_px := Lib.hid (Rd.box (HH.out.get 0 rfl))
    go_wp2_with (first | (refine wpList_load_agg rfl 28 _ rfl ⟨w.heap.size, 0, none⟩ rfl [.int .i64 b.first, .slice A n cap, .int .i64 b.rate] HL_bx.out _ Try.underlying28 rfl Bas.size ?_) | (refine wpList_load_agg rfl 35 _ rfl ⟨w.heap.size + 1, 0, none⟩ rfl [.int .i64 p.kind, .int .i64 p.age, .int .i64 p.years, .int .i64 p.sum, .int .i64 p.load] HL_px.out _ Try.underlying35 rfl Policy.size ?_))
    clear HL_bx HL_px
    generalize ((w.alloc (.cells #[.int .i64 b.first, .slice A n cap, .int .i64 b.rate] 28)).alloc (.cells #[.int .i64 p.kind, .int .i64 p.age, .int .i64 p.years, .int .i64 p.sum, .int .i64 p.load] 35)) = v0 at HB HH HT ⊢
    generalize w.heap.size + 1 = g0_1 at HH ⊢
    generalize w.heap.size = g0_0 at HH ⊢
    refine (spec_l12Code_any b A n cap p k _ HT.out hp hk).mono ?_
    rw [H0.out]
    rintro e w1 ⟨rfl, hb⟩
    replace HB := Lib.hid (below_all HB.out hb)
    replace HT := Lib.hid (HT.out.past hb)
    replace HH := Lib.hid (HH.out.past hb)
    clear hb
    go_wp2
    have hQ_bx := Lib.hid (Past.cells' (Rd.box (HH.out.get 1 rfl)))
    have hQ_px := Lib.hid (Past.cells' (Rd.box (HH.out.get 0 rfl)))
    refine wp_region_past (by kernel_rfl) (by kernel_rfl) ?_
    repeat (first | (go_big_quiet_want; (first | (first | (refine quiet_load_agg 28 _ rfl ⟨g0_0, 0, none⟩ rfl [.int .i64 b.first, .slice A n cap, .int .i64 b.rate] hQ_bx.out _ Try.underlying28 rfl Bas.size ?_) | (refine quiet_load_agg 35 _ rfl ⟨g0_1, 0, none⟩ rfl [.int .i64 p.kind, .int .i64 p.age, .int .i64 p.years, .int .i64 p.sum, .int .i64 p.load] hQ_px.out _ Try.underlying35 rfl Policy.size ?_))); go_simp; go_big_quiet_on) | go_big_quiet_step ((first | (go_at_call 79; exact past_call (spec_l11At_any b A n cap p k _ (HT.out.at_past _) HY.out)) | (go_at_call 92; exact past_call (spec_l12Value_any b A n cap p k _ (HT.out.at_past _) HY.out)))))
    refine wpQuiet_nil ?_
    rintro _ ⟨y, rfl⟩
    have hb := y.2
    replace HB := Lib.hid (below_all HB.out hb)
    replace HT := Lib.hid (HT.out.past hb)
    replace HH := Lib.hid (HH.out.past hb)
    clear hb
    clear hQ_bx hQ_px
    go_wp2
    go_ret2
    exact ⟨by rw [Q.out]; rfl, HB.out⟩
  · skip
    have Q := Lib.hid (show lossP b p k = (0, leavCode b p k) by unfold lossP; rw [if_neg h0])
    have hz : (leavCode b p k != 0) = true := by simpa [bne] using h0
    go_enter Try.func38, Try.ntmps38
    have HL_bx := Lib.hid (Rd.box (HH.out.get 1 rfl))
    have HL_px := Lib.hid (Rd.box (HH.out.get 0 rfl))
    go_wp2_with (first | (refine wpList_load_agg rfl 28 _ rfl ⟨w.heap.size, 0, none⟩ rfl [.int .i64 b.first, .slice A n cap, .int .i64 b.rate] HL_bx.out _ Try.underlying28 rfl Bas.size ?_) | (refine wpList_load_agg rfl 35 _ rfl ⟨w.heap.size + 1, 0, none⟩ rfl [.int .i64 p.kind, .int .i64 p.age, .int .i64 p.years, .int .i64 p.sum, .int .i64 p.load] HL_px.out _ Try.underlying35 rfl Policy.size ?_))
    clear HL_bx HL_px
    generalize ((w.alloc (.cells #[.int .i64 b.first, .slice A n cap, .int .i64 b.rate] 28)).alloc (.cells #[.int .i64 p.kind, .int .i64 p.age, .int .i64 p.years, .int .i64 p.sum, .int .i64 p.load] 35)) = v0 at HB HH HT ⊢
    generalize w.heap.size + 1 = g0_1 at HH ⊢
    generalize w.heap.size = g0_0 at HH ⊢
    refine (spec_l12Code_any b A n cap p k _ HT.out hp hk).mono ?_
    rintro e w1 ⟨rfl, hb⟩
    replace HB := Lib.hid (below_all HB.out hb)
    replace HT := Lib.hid (HT.out.past hb)
    replace HH := Lib.hid (HH.out.past hb)
    clear hb
    clear h0
    generalize hc : leavCode b p k = c at hz Q ⊢
    clear hc
    have hcc : (c == 0) = false := by simpa [bne] using hz
    go_wp2
    go_ret2
    exact ⟨by rw [Q.out]; rfl, HB.out⟩
set_option maxRecDepth 20000 in
set_option maxHeartbeats 8000000 in
theorem spec_PaidUpSum_any (b : Bas) (A : Option Addr) (n cap : Nat) (p : Policy) (k : Int) (w : World) (hB : BasT w A n cap b) (hp : p.fits) (hk : In64 k) :
    Calls Try.prog 34 #[.agg #[.int .i64 b.first, .slice A n cap, .int .i64 b.rate], .agg p.row.toArray, .int .i64 k] w fun e w' => e = .returned (.tuple #[.int .i64 (paidUpP b p k).1, .int .i64 (paidUpP b p k).2]) ∧ Below w.heap.size w w' := by
  unfold Policy.row
  have HB := Lib.hid (Below.refl w.heap.size w)
  have HH := Lib.hid (Held.nil w)
  have HT := Lib.hid hB; clear hB
  obtain ⟨hb, hr0, hr1⟩ := box2 (w := w) (tx := 28) (ty := 35) (X := [.int .i64 b.first, .slice A n cap, .int .i64 b.rate]) (Y := [.int .i64 p.kind, .int .i64 p.age, .int .i64 p.years, .int .i64 p.sum, .int .i64 p.load])
  replace HB := Lib.hid (below_all HB.out hb)
  replace HT := Lib.hid (HT.out.past hb)
  replace HH := Lib.hid (((HH.out.past hb).cons hr0).cons hr1)
  clear hb hr0 hr1
  by_cases h0 : leavCode b p k = 0
  · skip
    have Q := Lib.hid (show paidUpP b p k = (puQ p.sum (valV b p k) (partD b p k) (partT b p k), 0) by unfold paidUpP; rw [if_pos h0])
    have HY := Lib.hid (year_ok (leav_ok h0).1)
    obtain ⟨⟨r0, r1⟩, v0, v1⟩ := val_bound HY.out
    have hpo := part_ok HY.out (net_bound HY.out.toPolOk)
    have t0 := hpo.t0; have t1 := hpo.t1; have t2 := hpo.d0; have t3 := hpo.d1; have s1 := hpo.s1; have s0 := HY.out.sum0
    clear hpo
    have H0 := Lib.hid h0; clear h0
    go_enter Try.func34, Try.ntmps34
    have HL_bx := Lib.hid (Rd.box (HH.out.get 1 rfl))
    have HL_px := Lib.hid (Rd.box (HH.out.get 0 rfl))
    go_wp2_with (first | (refine wpList_load_agg rfl 28 _ rfl ⟨w.heap.size, 0, none⟩ rfl [.int .i64 b.first, .slice A n cap, .int .i64 b.rate] HL_bx.out _ Try.underlying28 rfl Bas.size ?_) | (refine wpList_load_agg rfl 35 _ rfl ⟨w.heap.size + 1, 0, none⟩ rfl [.int .i64 p.kind, .int .i64 p.age, .int .i64 p.years, .int .i64 p.sum, .int .i64 p.load] HL_px.out _ Try.underlying35 rfl Policy.size ?_))
    clear HL_bx HL_px
    generalize ((w.alloc (.cells #[.int .i64 b.first, .slice A n cap, .int .i64 b.rate] 28)).alloc (.cells #[.int .i64 p.kind, .int .i64 p.age, .int .i64 p.years, .int .i64 p.sum, .int .i64 p.load] 35)) = v0 at HB HH HT ⊢
    generalize w.heap.size + 1 = g0_1 at HH ⊢
    generalize w.heap.size = g0_0 at HH ⊢
    refine (spec_l12Code_any b A n cap p k _ HT.out hp hk).mono ?_
    rw [H0.out]
    rintro e w1 ⟨rfl, hb⟩
    replace HB := Lib.hid (below_all HB.out hb)
    replace HT := Lib.hid (HT.out.past hb)
    replace HH := Lib.hid (HH.out.past hb)
    clear hb
    have HL_bx := Lib.hid (Rd.box (HH.out.get 1 rfl))
    have HL_px := Lib.hid (Rd.box (HH.out.get 0 rfl))
    go_wp2_with (first | (refine wpList_load_agg rfl 28 _ rfl ⟨g0_0, 0, none⟩ rfl [.int .i64 b.first, .slice A n cap, .int .i64 b.rate] HL_bx.out _ Try.underlying28 rfl Bas.size ?_) | (refine wpList_load_agg rfl 35 _ rfl ⟨g0_1, 0, none⟩ rfl [.int .i64 p.kind, .int .i64 p.age, .int .i64 p.years, .int .i64 p.sum, .int .i64 p.load] HL_px.out _ Try.underlying35 rfl Policy.size ?_))
    clear HL_bx HL_px
    refine (spec_l11Parts_any b A n cap p k _ HT.out HY.out).mono ?_
    rintro e w2 ⟨rfl, hb⟩
    replace HB := Lib.hid (below_all HB.out hb)
    replace HT := Lib.hid (HT.out.past hb)
    replace HH := Lib.hid (HH.out.past hb)
    clear hb
    by_cases ht : partT b p k = 0
    · skip
      have htb : (partT b p k == 0) = true := by simp [ht]
      have QP := Lib.hid (show puQ p.sum (valV b p k) (partD b p k) (partT b p k) = 0 by unfold puQ; rw [if_pos ht])
      clear ht
      go_wp2
      go_ret2
      exact ⟨by rw [Q.out, QP.out]; rfl, HB.out⟩
    · skip
      have htb : (partT b p k == 0) = false := by simp [ht]
      have QP := Lib.hid (show puQ p.sum (valV b p k) (partD b p k) (partT b p k) = min p.sum (valV b p k * partD b p k / partT b p k) by unfold puQ; rw [if_neg ht])
      have ht1 : 1 ≤ partT b p k := by omega
      clear ht
      have HL_bx := Lib.hid (Rd.box (HH.out.get 1 rfl))
      have HL_px := Lib.hid (Rd.box (HH.out.get 0 rfl))
      go_wp2_with (first | (refine wpList_load_agg rfl 28 _ rfl ⟨g0_0, 0, none⟩ rfl [.int .i64 b.first, .slice A n cap, .int .i64 b.rate] HL_bx.out _ Try.underlying28 rfl Bas.size ?_) | (refine wpList_load_agg rfl 35 _ rfl ⟨g0_1, 0, none⟩ rfl [.int .i64 p.kind, .int .i64 p.age, .int .i64 p.years, .int .i64 p.sum, .int .i64 p.load] HL_px.out _ Try.underlying35 rfl Policy.size ?_))
      clear HL_bx HL_px
      refine (spec_l12Value_any b A n cap p k _ HT.out HY.out).mono ?_
      rintro e w3 ⟨rfl, hb⟩
      replace HB := Lib.hid (below_all HB.out hb)
      replace HT := Lib.hid (HT.out.past hb)
      replace HH := Lib.hid (HH.out.past hb)
      clear hb
      go_wp2_with fail
      by_cases hq : valV b p k * partD b p k / partT b p k ≤ 1000000000000000000
      · skip
        have QM := Lib.hid (show ldP (valV b p k) (partD b p k) (partT b p k) = (valV b p k * partD b p k / partT b p k, valV b p k * partD b p k % partT b p k) by unfold ldP; rw [if_pos hq])
        refine (spec_l05Divide_any (valV b p k) (partD b p k) (partT b p k) _ ⟨by omega, by omega⟩ ⟨by omega, by omega⟩ ⟨by omega, by omega⟩).mono ?_
        rw [QM.out]
        rintro e w' ⟨rfl, rfl⟩
        have q0 : w3.cell? ⟨g0_1, 0, none⟩ = some (.int .i64 p.kind) := Rd.bcell (HH.out.get 0 rfl) 0 rfl
        have q1 : w3.cell? ⟨g0_1, 1, none⟩ = some (.int .i64 p.age) := Rd.bcell (HH.out.get 0 rfl) 1 rfl
        have q2 : w3.cell? ⟨g0_1, 2, none⟩ = some (.int .i64 p.years) := Rd.bcell (HH.out.get 0 rfl) 2 rfl
        have q3 : w3.cell? ⟨g0_1, 3, none⟩ = some (.int .i64 p.sum) := Rd.bcell (HH.out.get 0 rfl) 3 rfl
        have q4 : w3.cell? ⟨g0_1, 4, none⟩ = some (.int .i64 p.load) := Rd.bcell (HH.out.get 0 rfl) 4 rfl
        generalize valV b p k * partD b p k / partT b p k = z at hq QP ⊢
        generalize valV b p k * partD b p k % partT b p k = zr
        clear hq
        go_wp2
        go_ret2
        exact ⟨by rw [Q.out, QP.out]; rfl, HB.out⟩
      · skip
        have QM := Lib.hid (show ldP (valV b p k) (partD b p k) (partT b p k) = (2000000000000000000, 0) by unfold ldP; rw [if_neg hq])
        refine (spec_l05Divide_any (valV b p k) (partD b p k) (partT b p k) _ ⟨by omega, by omega⟩ ⟨by omega, by omega⟩ ⟨by omega, by omega⟩).mono ?_
        rw [QM.out]
        rintro e w' ⟨rfl, rfl⟩
        have q0 : w3.cell? ⟨g0_1, 0, none⟩ = some (.int .i64 p.kind) := Rd.bcell (HH.out.get 0 rfl) 0 rfl
        have q1 : w3.cell? ⟨g0_1, 1, none⟩ = some (.int .i64 p.age) := Rd.bcell (HH.out.get 0 rfl) 1 rfl
        have q2 : w3.cell? ⟨g0_1, 2, none⟩ = some (.int .i64 p.years) := Rd.bcell (HH.out.get 0 rfl) 2 rfl
        have q3 : w3.cell? ⟨g0_1, 3, none⟩ = some (.int .i64 p.sum) := Rd.bcell (HH.out.get 0 rfl) 3 rfl
        have q4 : w3.cell? ⟨g0_1, 4, none⟩ = some (.int .i64 p.load) := Rd.bcell (HH.out.get 0 rfl) 4 rfl
        have QL := Lib.hid (QP.out.trans (show min p.sum (valV b p k * partD b p k / partT b p k) = min p.sum 2000000000000000000 by omega))
        clear hq
        go_wp2
        go_ret2
        exact ⟨by rw [Q.out, QL.out]; rfl, HB.out⟩
  · skip
    have Q := Lib.hid (show paidUpP b p k = (0, leavCode b p k) by unfold paidUpP; rw [if_neg h0])
    have hz : (leavCode b p k != 0) = true := by simpa [bne] using h0
    go_enter Try.func34, Try.ntmps34
    have HL_bx := Lib.hid (Rd.box (HH.out.get 1 rfl))
    have HL_px := Lib.hid (Rd.box (HH.out.get 0 rfl))
    go_wp2_with (first | (refine wpList_load_agg rfl 28 _ rfl ⟨w.heap.size, 0, none⟩ rfl [.int .i64 b.first, .slice A n cap, .int .i64 b.rate] HL_bx.out _ Try.underlying28 rfl Bas.size ?_) | (refine wpList_load_agg rfl 35 _ rfl ⟨w.heap.size + 1, 0, none⟩ rfl [.int .i64 p.kind, .int .i64 p.age, .int .i64 p.years, .int .i64 p.sum, .int .i64 p.load] HL_px.out _ Try.underlying35 rfl Policy.size ?_))
    clear HL_bx HL_px
    generalize ((w.alloc (.cells #[.int .i64 b.first, .slice A n cap, .int .i64 b.rate] 28)).alloc (.cells #[.int .i64 p.kind, .int .i64 p.age, .int .i64 p.years, .int .i64 p.sum, .int .i64 p.load] 35)) = v0 at HB HH HT ⊢
    generalize w.heap.size + 1 = g0_1 at HH ⊢
    generalize w.heap.size = g0_0 at HH ⊢
    refine (spec_l12Code_any b A n cap p k _ HT.out hp hk).mono ?_
    rintro e w1 ⟨rfl, hb⟩
    replace HB := Lib.hid (below_all HB.out hb)
    replace HT := Lib.hid (HT.out.past hb)
    replace HH := Lib.hid (HH.out.past hb)
    clear hb
    clear h0
    generalize hc : leavCode b p k = c at hz Q ⊢
    clear hc
    have hcc : (c == 0) = false := by simpa [bne] using hz
    go_wp2
    go_ret2
    exact ⟨by rw [Q.out]; rfl, HB.out⟩
end Go.Proofs.Ytbjdbpdgacfcpaa
end

/- The kept years: the reference (printed by lv2.py). -/
section
namespace Go.Proofs.Ytbjdbpdgacfcpaa
open Go.RowKit Go.BigFrame

set_option maxRecDepth 20000 in
set_option maxHeartbeats 8000000 in
theorem spec_KeptYears_any (b : Bas) (A : Option Addr) (n cap : Nat) (p : Policy) (k : Int) (w : World) (hB : BasT w A n cap b) (hp : p.fits) (hk : In64 k) :
    Calls Try.prog 43 #[.agg #[.int .i64 b.first, .slice A n cap, .int .i64 b.rate], .agg p.row.toArray, .int .i64 k] w fun e w' => e = .returned (.tuple #[.int .i64 (keptYP b p k).1, .int .i64 (keptYP b p k).2]) ∧ Below w.heap.size w w' := by
  unfold Policy.row
  have HB := Lib.hid (Below.refl w.heap.size w)
  have HH := Lib.hid (Held.nil w)
  have HT := Lib.hid hB; clear hB
  obtain ⟨hb, hr0, hr1⟩ := box2 (w := w) (tx := 28) (ty := 35) (X := [.int .i64 b.first, .slice A n cap, .int .i64 b.rate]) (Y := [.int .i64 p.kind, .int .i64 p.age, .int .i64 p.years, .int .i64 p.sum, .int .i64 p.load])
  replace HB := Lib.hid (below_all HB.out hb)
  replace HT := Lib.hid (HT.out.past hb)
  replace HH := Lib.hid (((HH.out.past hb).cons hr0).cons hr1)
  clear hb hr0 hr1
  by_cases h0 : leavCode b p k = 0
  · skip
    have Q := Lib.hid (show keptYP b p k = ((keptM b p k (valV b p k) (durP b p - k).toNat : Int), 0) by unfold keptYP; rw [if_pos h0])
    have HY := Lib.hid (year_ok (leav_ok h0).1)
    have HPO := Lib.hid HY.out.toPolOk
    have hd120 := dur_small HPO.out
    have hk0 := HY.out.k0; have hk1 := HY.out.k1
    have ha0 := HY.out.age0; have ha1 := HY.out.age1; have hf0 := HY.out.tab.first0; have hf1 := HY.out.tab.first1
    have s1 := HY.out.sum1; have s0 := HY.out.sum0
    obtain ⟨⟨r0, r1⟩, u0, u1⟩ := val_bound HY.out
    have H0 := Lib.hid h0; clear h0
    obtain ⟨V, hV⟩ : ∃ V, V = valV b p k := ⟨_, rfl⟩
    obtain ⟨N, hN⟩ : ∃ N, N = (durP b p - k).toNat := ⟨_, rfl⟩
    have hNd : (N : Int) = durP b p - k := by omega
    have HND := Lib.hid hNd; clear hNd
    rw [← hV, ← hN] at Q
    rw [← hV] at u0 u1
    have HV := Lib.hid hV
    have HN := Lib.hid hN; clear hN
    have HVV := Lib.hid (show valV b p k = V from hV.symm); clear hV
    obtain ⟨D, hD⟩ : ∃ D, D = partD b p k := ⟨_, rfl⟩
    have HD := Lib.hid (show b.d (p.age + k) = D from hD.symm)
    have hD1 : 1 ≤ D := by rw [hD]; exact HY.out.d1
    have hD2 : D ≤ 1000000000000000 := by rw [hD]; exact (d_bound HPO.out.toBasOk _).2
    have HDE := Lib.hid hD; clear hD
    go_enter Try.func43, Try.ntmps43
    have HL_bx := Lib.hid (Rd.box (HH.out.get 1 rfl))
    have HL_px := Lib.hid (Rd.box (HH.out.get 0 rfl))
    go_wp2_with (first | (refine wpList_load_agg rfl 28 _ rfl ⟨w.heap.size, 0, none⟩ rfl [.int .i64 b.first, .slice A n cap, .int .i64 b.rate] HL_bx.out _ Try.underlying28 rfl Bas.size ?_) | (refine wpList_load_agg rfl 35 _ rfl ⟨w.heap.size + 1, 0, none⟩ rfl [.int .i64 p.kind, .int .i64 p.age, .int .i64 p.years, .int .i64 p.sum, .int .i64 p.load] HL_px.out _ Try.underlying35 rfl Policy.size ?_))
    clear HL_bx HL_px
    generalize ((w.alloc (.cells #[.int .i64 b.first, .slice A n cap, .int .i64 b.rate] 28)).alloc (.cells #[.int .i64 p.kind, .int .i64 p.age, .int .i64 p.years, .int .i64 p.sum, .int .i64 p.load] 35)) = v0 at HB HH HT ⊢
    generalize w.heap.size + 1 = g0_1 at HH ⊢
    generalize w.heap.size = g0_0 at HH ⊢
    refine (spec_l12Code_any b A n cap p k _ HT.out hp hk).mono ?_
    rw [H0.out]
    rintro e w1 ⟨rfl, hb⟩
    replace HB := Lib.hid (below_all HB.out hb)
    replace HT := Lib.hid (HT.out.past hb)
    replace HH := Lib.hid (HH.out.past hb)
    clear hb
    have d0 := fun y : Past w1 => Past.cell (p := ⟨g0_1, 0, none⟩) (v := .int .i64 p.kind) (Rd.bcell (HH.out.get 0 rfl) 0 rfl) y
    have d1 := fun y : Past w1 => Past.cell (p := ⟨g0_1, 1, none⟩) (v := .int .i64 p.age) (Rd.bcell (HH.out.get 0 rfl) 1 rfl) y
    have d2 := fun y : Past w1 => Past.cell (p := ⟨g0_1, 2, none⟩) (v := .int .i64 p.years) (Rd.bcell (HH.out.get 0 rfl) 2 rfl) y
    have d3 := fun y : Past w1 => Past.cell (p := ⟨g0_1, 3, none⟩) (v := .int .i64 p.sum) (Rd.bcell (HH.out.get 0 rfl) 3 rfl) y
    have d4 := fun y : Past w1 => Past.cell (p := ⟨g0_1, 4, none⟩) (v := .int .i64 p.load) (Rd.bcell (HH.out.get 0 rfl) 4 rfl) y
    have e0 := fun y : Past w1 => Past.cell (p := ⟨g0_0, 0, none⟩) (v := .int .i64 b.first) (Rd.bcell (HH.out.get 1 rfl) 0 rfl) y
    have e1 := fun y : Past w1 => Past.cell (p := ⟨g0_0, 1, none⟩) (v := .slice A n cap) (Rd.bcell (HH.out.get 1 rfl) 1 rfl) y
    have e2 := fun y : Past w1 => Past.cell (p := ⟨g0_0, 2, none⟩) (v := .int .i64 b.rate) (Rd.bcell (HH.out.get 1 rfl) 2 rfl) y
    go_wp2
    have hQ_bx := Lib.hid (Past.cells' (Rd.box (HH.out.get 1 rfl)))
    have hQ_px := Lib.hid (Past.cells' (Rd.box (HH.out.get 0 rfl)))
    have hQ_tx := Lib.hid (Past.cells' (Rd.boxT (HH.out.get 1 rfl)))
    refine wp_region_past (by kernel_rfl) (by kernel_rfl) ?_
    repeat (first | (go_big_quiet_want; (first | (first | (refine quiet_load_agg 28 _ rfl ⟨g0_0, 0, none⟩ rfl [.int .i64 b.first, .slice A n cap, .int .i64 b.rate] hQ_bx.out _ Try.underlying28 rfl Bas.size ?_) | (refine quiet_load_agg 35 _ rfl ⟨g0_1, 0, none⟩ rfl [.int .i64 p.kind, .int .i64 p.age, .int .i64 p.years, .int .i64 p.sum, .int .i64 p.load] hQ_px.out _ Try.underlying35 rfl Policy.size ?_) | (refine quiet_load_agg 26 _ rfl ⟨g0_0, 0, none⟩ rfl [.int .i64 b.first, .slice A n cap] hQ_tx.out _ Try.underlying26 rfl Tab.size ?_))); go_simp; go_big_quiet_on) | go_big_quiet_step ((first | (go_at_call 92; exact past_call ((spec_l12Value_any b A n cap p k _ (HT.out.at_past _) HY.out).mono (by rw [HVV.out]; exact fun _ _ h => h))) | (go_at_call 78; exact past_call ((spec_l05D_at b A n cap (p.age + k) _ (HT.out.at_past _) HPO.out.toBasOk ⟨by omega, by omega⟩).mono (by rw [HD.out]; exact fun _ _ h => h))))))
    refine wpQuiet_nil ?_
    rintro _ ⟨y, rfl⟩
    have hb := y.2
    replace HB := Lib.hid (below_all HB.out hb)
    replace HT := Lib.hid (HT.out.past hb)
    replace HH := Lib.hid (HH.out.past hb)
    clear hb
    clear hQ_bx hQ_px hQ_tx
    clear d0 d1 d2 d3 d4 e0 e1 e2
    obtain ⟨w4, hw4⟩ : ∃ w4, w4 = y.1 := ⟨_, rfl⟩
    rw [← hw4] at HB HH HT ⊢
    clear hw4 y
    have HL_bx := Lib.hid (Rd.box (HH.out.get 1 rfl))
    have HL_px := Lib.hid (Rd.box (HH.out.get 0 rfl))
    go_wp2_with (first | (refine wpList_load_agg rfl 28 _ rfl ⟨g0_0, 0, none⟩ rfl [.int .i64 b.first, .slice A n cap, .int .i64 b.rate] HL_bx.out _ Try.underlying28 rfl Bas.size ?_) | (refine wpList_load_agg rfl 35 _ rfl ⟨g0_1, 0, none⟩ rfl [.int .i64 p.kind, .int .i64 p.age, .int .i64 p.years, .int .i64 p.sum, .int .i64 p.load] HL_px.out _ Try.underlying35 rfl Policy.size ?_))
    clear HL_bx HL_px
    refine (spec_l10Duration_any b A n cap p _ HT.out HPO.out).mono ?_
    rintro e w5 ⟨rfl, hb⟩
    replace HB := Lib.hid (below_all HB.out hb)
    replace HT := Lib.hid (HT.out.past hb)
    replace HH := Lib.hid (HH.out.past hb)
    clear hb
    go_wp2
    have HH1 := HH
    have HT1 := HT
    have HB1 := HB
    go_loopw [11] (fun i wr => ∃ (mi : Int), (0 ≤ mi ∧ mi ≤ (N : Int)) ∧ keptM b p k V mi.toNat = keptM b p k V N ∧ i = .int .i64 mi ∧ Below w5.heap.size w5 wr) (fun i _ => (intOf i).toNat)
    case atStart => exact ⟨durP b p - k, by have := HND.out; omega, by rw [show (durP b p - k).toNat = N by have := HND.out; omega], rfl, Below.refl _ _⟩
    case round =>
      clear HB HH HT
      obtain ⟨mi, ⟨hm0, hm1⟩, hkm, rfl, hb⟩ := hrel
      have HKM := Lib.hid hkm; clear hkm
      have HW := Lib.hid hb
      have HH := Lib.hid (HH1.out.past hb)
      have HT := Lib.hid (HT1.out.past hb)
      have HB := Lib.hid (HB1.out.trans (hb.mono HB1.out.size))
      clear hb
      have hm2 : mi ≤ 120 := by have := HND.out; omega
      have d0 := fun y : Past wr => Past.cell (p := ⟨g0_1, 0, none⟩) (v := .int .i64 p.kind) (Rd.bcell (HH.out.get 0 rfl) 0 rfl) y
      have d1 := fun y : Past wr => Past.cell (p := ⟨g0_1, 1, none⟩) (v := .int .i64 p.age) (Rd.bcell (HH.out.get 0 rfl) 1 rfl) y
      have d2 := fun y : Past wr => Past.cell (p := ⟨g0_1, 2, none⟩) (v := .int .i64 p.years) (Rd.bcell (HH.out.get 0 rfl) 2 rfl) y
      have d3 := fun y : Past wr => Past.cell (p := ⟨g0_1, 3, none⟩) (v := .int .i64 p.sum) (Rd.bcell (HH.out.get 0 rfl) 3 rfl) y
      have d4 := fun y : Past wr => Past.cell (p := ⟨g0_1, 4, none⟩) (v := .int .i64 p.load) (Rd.bcell (HH.out.get 0 rfl) 4 rfl) y
      have e0 := fun y : Past wr => Past.cell (p := ⟨g0_0, 0, none⟩) (v := .int .i64 b.first) (Rd.bcell (HH.out.get 1 rfl) 0 rfl) y
      have e1 := fun y : Past wr => Past.cell (p := ⟨g0_0, 1, none⟩) (v := .slice A n cap) (Rd.bcell (HH.out.get 1 rfl) 1 rfl) y
      have e2 := fun y : Past wr => Past.cell (p := ⟨g0_0, 2, none⟩) (v := .int .i64 b.rate) (Rd.bcell (HH.out.get 1 rfl) 2 rfl) y
      by_cases hpz : mi = 0
      · skip
        have hpb : decide (0 < mi) = false := by simp; omega
        have QY := Lib.hid (show (keptM b p k V N : Int) = mi by rw [← HKM.out, show mi.toNat = 0 by omega]; show ((0 : Nat) : Int) = mi; omega)
        go_wp2
        refine wp_region_past (by kernel_rfl) (by kernel_rfl) ?_
        repeat (go_big_quiet_step (fail))
        refine wpQuiet_nil ?_
        rintro _ ⟨y, rfl⟩
        have hb := y.2
        replace HB := Lib.hid (below_all HB.out hb)
        replace HT := Lib.hid (HT.out.past hb)
        replace HH := Lib.hid (HH.out.past hb)
        clear hb
        go_wp2
        go_ret2
        exact ⟨by rw [Q.out, QY.out]; rfl, HB.out⟩
      · skip
        have hpb : decide (0 < mi) = true := by simp; omega
        obtain ⟨⟨g0, g1⟩, ⟨q0, q1⟩, x0, x1⟩ := kept_price HY.out (m := mi)
        rw [← HDE.out] at g1 q0 q1
        have HX := Lib.hid (show upP p.sum (b.top 1 (p.age + k) mi) D = priceP b 1 (p.age + k) mi p.sum by rw [HDE.out]; rfl)
        obtain ⟨TP, hTP⟩ : ∃ TP, TP = b.top 1 (p.age + k) mi := ⟨_, rfl⟩
        rw [← hTP] at g0 g1 q0 q1 HX
        have HTP := Lib.hid (show topF b.lives b.rate 1 (p.age + k - b.first).toNat mi.toNat = TP from hTP.symm)
        clear hTP
        obtain ⟨X, hX⟩ : ∃ X, X = priceP b 1 (p.age + k) mi p.sum := ⟨_, rfl⟩
        rw [← hX] at x0 x1 HX
        by_cases hxv : V < X
        · skip
          have hxb : decide (V < X) = true := by simp; omega
          have hmn : mi.toNat = (mi.toNat - 1) + 1 := by omega
          have hcast : (((mi.toNat - 1 : Nat) : Int)) + 1 = mi := by omega
          have HK := Lib.hid (show keptM b p k V (mi - 1).toNat = keptM b p k V N by rw [← HKM.out, hmn, keptM_neg (by rw [hcast, ← hX]; omega)]; congr 1; omega)
          clear hxv hX hmn hcast
          go_wp2
          refine wp_region_past (by kernel_rfl) (by kernel_rfl) ?_
          repeat (go_big_quiet_step ((first | (go_at_call 96; exact past_call ((spec_l07Top_any b.first A n cap b.lives b.rate 1 (p.age + k) mi _ (HT.out.at_past _).lives HPO.out.tab ⟨HPO.out.rate0, HPO.out.rate1⟩ ⟨by omega, by omega⟩ ⟨by omega, by omega⟩).mono (by rw [HTP.out]; exact fun _ _ h => h))) | (go_at_call 95; exact past_same ((spec_l05Up_any p.sum TP D _ ⟨by omega, by omega⟩ ⟨by omega, by omega⟩ ⟨by omega, by omega⟩ (by omega)).mono (by rw [HX.out]; exact fun _ _ h => h))))))
          refine wpQuiet_nil ?_
          rintro _ ⟨y, rfl⟩
          have hb := y.2
          replace HW := Lib.hid (HW.out.trans (hb.mono HW.out.size))
          replace HB := Lib.hid (below_all HB.out hb)
          replace HT := Lib.hid (HT.out.past hb)
          replace HH := Lib.hid (HH.out.past hb)
          clear hb
          go_wp2
          go_roundw
          case rel => exact ⟨mi - 1, ⟨by omega, by omega⟩, HK.out, by go_num, HW.out⟩
          case measure => simp [intOf]; omega
        · skip
          have hxb : decide (V < X) = false := by simp; omega
          have hmn : mi.toNat = (mi.toNat - 1) + 1 := by omega
          have hcast : (((mi.toNat - 1 : Nat) : Int)) + 1 = mi := by omega
          have HK := Lib.hid (show (keptM b p k V N : Int) = mi by rw [← HKM.out, hmn, keptM_pos (by rw [hcast, ← hX]; omega)]; omega)
          clear hxv hX hmn hcast
          go_wp2
          refine wp_region_past (by kernel_rfl) (by kernel_rfl) ?_
          repeat (go_big_quiet_step ((first | (go_at_call 96; exact past_call ((spec_l07Top_any b.first A n cap b.lives b.rate 1 (p.age + k) mi _ (HT.out.at_past _).lives HPO.out.tab ⟨HPO.out.rate0, HPO.out.rate1⟩ ⟨by omega, by omega⟩ ⟨by omega, by omega⟩).mono (by rw [HTP.out]; exact fun _ _ h => h))) | (go_at_call 95; exact past_same ((spec_l05Up_any p.sum TP D _ ⟨by omega, by omega⟩ ⟨by omega, by omega⟩ ⟨by omega, by omega⟩ (by omega)).mono (by rw [HX.out]; exact fun _ _ h => h))))))
          refine wpQuiet_nil ?_
          rintro _ ⟨y, rfl⟩
          have hb := y.2
          replace HW := Lib.hid (HW.out.trans (hb.mono HW.out.size))
          replace HB := Lib.hid (below_all HB.out hb)
          replace HT := Lib.hid (HT.out.past hb)
          replace HH := Lib.hid (HH.out.past hb)
          clear hb
          go_wp2
          go_ret2
          exact ⟨by rw [Q.out, HK.out]; rfl, HB.out⟩
  · skip
    have Q := Lib.hid (show keptYP b p k = (0, leavCode b p k) by unfold keptYP; rw [if_neg h0])
    have hz : (leavCode b p k != 0) = true := by simpa [bne] using h0
    go_enter Try.func43, Try.ntmps43
    have HL_bx := Lib.hid (Rd.box (HH.out.get 1 rfl))
    have HL_px := Lib.hid (Rd.box (HH.out.get 0 rfl))
    go_wp2_with (first | (refine wpList_load_agg rfl 28 _ rfl ⟨w.heap.size, 0, none⟩ rfl [.int .i64 b.first, .slice A n cap, .int .i64 b.rate] HL_bx.out _ Try.underlying28 rfl Bas.size ?_) | (refine wpList_load_agg rfl 35 _ rfl ⟨w.heap.size + 1, 0, none⟩ rfl [.int .i64 p.kind, .int .i64 p.age, .int .i64 p.years, .int .i64 p.sum, .int .i64 p.load] HL_px.out _ Try.underlying35 rfl Policy.size ?_))
    clear HL_bx HL_px
    generalize ((w.alloc (.cells #[.int .i64 b.first, .slice A n cap, .int .i64 b.rate] 28)).alloc (.cells #[.int .i64 p.kind, .int .i64 p.age, .int .i64 p.years, .int .i64 p.sum, .int .i64 p.load] 35)) = v0 at HB HH HT ⊢
    generalize w.heap.size + 1 = g0_1 at HH ⊢
    generalize w.heap.size = g0_0 at HH ⊢
    refine (spec_l12Code_any b A n cap p k _ HT.out hp hk).mono ?_
    rintro e w1 ⟨rfl, hb⟩
    replace HB := Lib.hid (below_all HB.out hb)
    replace HT := Lib.hid (HT.out.past hb)
    replace HH := Lib.hid (HH.out.past hb)
    clear hb
    clear h0
    generalize hc : leavCode b p k = c at hz Q ⊢
    clear hc
    have hcc : (c == 0) = false := by simpa [bne] using hz
    go_wp2
    go_ret2
    exact ⟨by rw [Q.out]; rfl, HB.out⟩
end Go.Proofs.Ytbjdbpdgacfcpaa
end
