/- Parts of a proof, one after another: Rl3, Rl4, Rl5, Rl6. No condition. -/
import Derived.Test.YtbjdbpdgacfcpaaK11
import Derived.Test.YtbjdbpdgacfcpaaK14
import Derived.Test.YtbjdbpdgacfcpaaK16
/- The greatest reserve: contracts (printed by rl2.py). -/
section
namespace Go.Proofs.Ytbjdbpdgacfcpaa
open Go.RowKit Go.BigFrame

set_option maxRecDepth 20000 in
set_option maxHeartbeats 8000000 in
theorem impl_GreatestReserve_any (b : Bas) (A : Option Addr) (n cap : Nat) (p : Policy) (w : World) (hB : BasT w A n cap b) (hp : p.fits) :
    Calls Try.prog 22 #[.agg #[.int .i64 b.first, .slice A n cap, .int .i64 b.rate], .agg p.row.toArray] w fun e w' => e = .returned (.tuple #[.int .i64 (greatP b p).1, .int .i64 (greatP b p).2.1, .int .i64 (greatP b p).2.2]) ∧ Below w.heap.size w w' := by
  unfold Policy.row
  have HB := Lib.hid (Below.refl w.heap.size w)
  have HH := Lib.hid (Held.nil w)
  have HT := Lib.hid hB; clear hB
  obtain ⟨hb, hr0, hr1⟩ := box2 (w := w) (tx := 28) (ty := 35) (X := [.int .i64 b.first, .slice A n cap, .int .i64 b.rate]) (Y := [.int .i64 p.kind, .int .i64 p.age, .int .i64 p.years, .int .i64 p.sum, .int .i64 p.load])
  replace HB := Lib.hid (below_all HB.out hb)
  replace HT := Lib.hid (HT.out.past hb)
  replace HH := Lib.hid (((HH.out.past hb).cons hr0).cons hr1)
  clear hb hr0 hr1
  by_cases h0 : (rlP b p).2 = 0
  · skip
    obtain ⟨r1, r2⟩ := rl_good h0
    have HPO := Lib.hid (pol_ok r1)
    obtain ⟨hn0, hn1, hn2⟩ := rlN_cast HPO.out
    have Q := Lib.hid (show greatP b p = (gdm (rlTo b p (rlN b p)) (topIx (rlTo b p (rlN b p)) (rlN b p)), (topIx (rlTo b p (rlN b p)) (rlN b p) : Int), 0) by unfold greatP; rw [if_pos h0])
    have HRL := Lib.hid r2
    clear hn0 r1 r2 h0
    go_enter Try.func22, Try.ntmps22
    have HL_bx := Lib.hid (Rd.box (HH.out.get 1 rfl))
    have HL_px := Lib.hid (Rd.box (HH.out.get 0 rfl))
    go_wp2_with (first | (refine wpList_load_agg rfl 28 _ rfl ⟨w.heap.size, 0, none⟩ rfl [.int .i64 b.first, .slice A n cap, .int .i64 b.rate] HL_bx.out _ Try.underlying28 rfl Bas.size ?_) | (refine wpList_load_agg rfl 35 _ rfl ⟨w.heap.size + 1, 0, none⟩ rfl [.int .i64 p.kind, .int .i64 p.age, .int .i64 p.years, .int .i64 p.sum, .int .i64 p.load] HL_px.out _ Try.underlying35 rfl Policy.size ?_))
    clear HL_bx HL_px
    generalize ((w.alloc (.cells #[.int .i64 b.first, .slice A n cap, .int .i64 b.rate] 28)).alloc (.cells #[.int .i64 p.kind, .int .i64 p.age, .int .i64 p.years, .int .i64 p.sum, .int .i64 p.load] 35)) = v0 at HB HH HT ⊢
    generalize w.heap.size + 1 = g0_1 at HH ⊢
    generalize w.heap.size = g0_0 at HH ⊢
    refine (impl_ReserveList_any b A n cap p _ HT.out hp).mono ?_
    rw [HRL.out]
    rintro e w1 ⟨A2, n2, c2, rfl, hR, hb⟩
    have hl2 : (rlTo b p (rlN b p)).length = n2 := by have := hR.len; rwa [intRows_length] at this
    rw [rlTo_length] at hl2
    have HX := Lib.hid hR.rd
    replace HB := Lib.hid (below_all HB.out hb)
    replace HT := Lib.hid (HT.out.past hb)
    replace HH := Lib.hid (HH.out.past hb)
    clear hb
    clear hR
    generalize hys : rlTo b p (rlN b p) = ys at Q HX ⊢
    have HL := Lib.hid (show ys.length = n2 by rw [← hys, rlTo_length, hl2])
    rw [hl2] at Q hn1 hn2
    clear hys hl2 HRL
    have hn2i : (n2 : Int) ≤ 120 := by omega
    have hn1i : 1 ≤ (n2 : Int) := by omega
    go_wp2
    go_loopw [9, 23] (fun q i wr => ∃ k : Nat, k ≤ n2 ∧ i = .int .i64 k ∧ q = .int .i64 (topIx ys k : Nat) ∧ wr = w1) (fun _ i _ => n2 - (intOf i).toNat)
    case atStart => exact ⟨0, by omega, rfl, rfl, rfl⟩
    case round =>
      obtain ⟨k, hk, rfl, rfl, rfl⟩ := hrel
      by_cases hlt : k < n2
      · obtain ⟨y, hy⟩ := get_of_lt (xs := ys) (k := k) (by rw [HL.out]; exact hlt)
        have hq := top_lt (ys := ys) (show 0 < n2 by omega) k (by omega)
        obtain ⟨z, hz⟩ := get_of_lt (xs := ys) (k := topIx ys k) (by rw [HL.out]; exact hq)
        obtain ⟨ad, rfl, had, hcy⟩ := HX.out.int_at hy
        obtain ⟨ad', e, _, hcz⟩ := HX.out.int_at hz
        obtain rfl : ad = ad' := by injection e
        have HE := Lib.hid (top_succ hy hz)
        generalize topIx ys k = q at *
        have hqi : (q : Int) < (n2 : Int) := by omega
        have hki : (k : Int) < (n2 : Int) := by omega
        have hq0 : 0 ≤ (q : Int) := by omega
        have hk0 : 0 ≤ (k : Int) := by omega
        clear hy hz e
        by_cases hgt : z < y
        · skip
          have hgb : decide (z < y) = true := by simp; omega
          rw [if_pos hgt] at HE
          clear hgt
          go_wp2
          go_roundw
          case rel => exact ⟨k + 1, by omega, by go_num, by rw [HE.out], by first | rfl | trivial⟩
          case measure => simp [intOf]; omega
        · skip
          have hgb : decide (z < y) = false := by simp; omega
          rw [if_neg hgt] at HE
          clear hgt
          go_wp2
          go_roundw
          case rel => exact ⟨k + 1, by omega, by go_num, by rw [HE.out], by first | rfl | trivial⟩
          case measure => simp [intOf]; omega
      · have hkn : k = n2 := by omega
        subst hkn
        have hq := top_lt (ys := ys) (show 0 < k by omega) k (by omega)
        obtain ⟨z, hz⟩ := get_of_lt (xs := ys) (k := topIx ys k) (by rw [HL.out]; exact hq)
        obtain ⟨ad, rfl, had, hcz⟩ := HX.out.int_at hz
        have Q2 := Lib.hid (show gdm ys (topIx ys k) = z by unfold gdm; rw [List.getD_eq_getElem?_getD, hz]; rfl)
        generalize topIx ys k = q at *
        have hqi : (q : Int) < (k : Int) := by omega
        have hq0 : 0 ≤ (q : Int) := by omega
        clear hz
        go_wp2
        go_ret3
        exact ⟨by rw [Q.out, Q2.out]; rfl, HB.out⟩
  · skip
    have Q := Lib.hid (show greatP b p = (0, 0, (rlP b p).2) by unfold greatP; rw [if_neg h0])
    have hz : ((rlP b p).2 != 0) = true := by simpa [bne] using h0
    clear h0
    go_enter Try.func22, Try.ntmps22
    have HL_bx := Lib.hid (Rd.box (HH.out.get 1 rfl))
    have HL_px := Lib.hid (Rd.box (HH.out.get 0 rfl))
    go_wp2_with (first | (refine wpList_load_agg rfl 28 _ rfl ⟨w.heap.size, 0, none⟩ rfl [.int .i64 b.first, .slice A n cap, .int .i64 b.rate] HL_bx.out _ Try.underlying28 rfl Bas.size ?_) | (refine wpList_load_agg rfl 35 _ rfl ⟨w.heap.size + 1, 0, none⟩ rfl [.int .i64 p.kind, .int .i64 p.age, .int .i64 p.years, .int .i64 p.sum, .int .i64 p.load] HL_px.out _ Try.underlying35 rfl Policy.size ?_))
    clear HL_bx HL_px
    generalize ((w.alloc (.cells #[.int .i64 b.first, .slice A n cap, .int .i64 b.rate] 28)).alloc (.cells #[.int .i64 p.kind, .int .i64 p.age, .int .i64 p.years, .int .i64 p.sum, .int .i64 p.load] 35)) = v0 at HB HH HT ⊢
    generalize w.heap.size + 1 = g0_1 at HH ⊢
    generalize w.heap.size = g0_0 at HH ⊢
    refine (impl_ReserveList_any b A n cap p _ HT.out hp).mono ?_
    rintro e w1 ⟨A2, n2, c2, rfl, hR, hb⟩
    replace HB := Lib.hid (below_all HB.out hb)
    replace HT := Lib.hid (HT.out.past hb)
    replace HH := Lib.hid (HH.out.past hb)
    clear hb
    clear hR
    generalize hc : (rlP b p).2 = c at hz Q ⊢
    clear hc
    have hcc : (c == 0) = false := by simpa [bne] using hz
    go_wp2
    go_ret3
    exact ⟨by rw [Q.out]; rfl, HB.out⟩
set_option maxRecDepth 20000 in
set_option maxHeartbeats 8000000 in
theorem spec_GreatestReserve_any (b : Bas) (A : Option Addr) (n cap : Nat) (p : Policy) (w : World) (hB : BasT w A n cap b) (hp : p.fits) :
    Calls Try.prog 23 #[.agg #[.int .i64 b.first, .slice A n cap, .int .i64 b.rate], .agg p.row.toArray] w fun e w' => e = .returned (.tuple #[.int .i64 (greatP b p).1, .int .i64 (greatP b p).2.1, .int .i64 (greatP b p).2.2]) ∧ Below w.heap.size w w' := by
  unfold Policy.row
  have HB := Lib.hid (Below.refl w.heap.size w)
  have HH := Lib.hid (Held.nil w)
  have HT := Lib.hid hB; clear hB
  obtain ⟨hb, hr0, hr1⟩ := box2 (w := w) (tx := 28) (ty := 35) (X := [.int .i64 b.first, .slice A n cap, .int .i64 b.rate]) (Y := [.int .i64 p.kind, .int .i64 p.age, .int .i64 p.years, .int .i64 p.sum, .int .i64 p.load])
  replace HB := Lib.hid (below_all HB.out hb)
  replace HT := Lib.hid (HT.out.past hb)
  replace HH := Lib.hid (((HH.out.past hb).cons hr0).cons hr1)
  clear hb hr0 hr1
  by_cases h0 : (rlP b p).2 = 0
  · skip
    obtain ⟨r1, r2⟩ := rl_good h0
    have HPO := Lib.hid (pol_ok r1)
    obtain ⟨hn0, hn1, hn2⟩ := rlN_cast HPO.out
    have Q := Lib.hid (show greatP b p = (gdm (rlTo b p (rlN b p)) (topIx (rlTo b p (rlN b p)) (rlN b p)), (topIx (rlTo b p (rlN b p)) (rlN b p) : Int), 0) by unfold greatP; rw [if_pos h0])
    have HRL := Lib.hid r2
    clear hn0 r1 r2 h0
    go_enter Try.func23, Try.ntmps23
    have HL_bx := Lib.hid (Rd.box (HH.out.get 1 rfl))
    have HL_px := Lib.hid (Rd.box (HH.out.get 0 rfl))
    go_wp2_with (first | (refine wpList_load_agg rfl 28 _ rfl ⟨w.heap.size, 0, none⟩ rfl [.int .i64 b.first, .slice A n cap, .int .i64 b.rate] HL_bx.out _ Try.underlying28 rfl Bas.size ?_) | (refine wpList_load_agg rfl 35 _ rfl ⟨w.heap.size + 1, 0, none⟩ rfl [.int .i64 p.kind, .int .i64 p.age, .int .i64 p.years, .int .i64 p.sum, .int .i64 p.load] HL_px.out _ Try.underlying35 rfl Policy.size ?_))
    clear HL_bx HL_px
    generalize ((w.alloc (.cells #[.int .i64 b.first, .slice A n cap, .int .i64 b.rate] 28)).alloc (.cells #[.int .i64 p.kind, .int .i64 p.age, .int .i64 p.years, .int .i64 p.sum, .int .i64 p.load] 35)) = v0 at HB HH HT ⊢
    generalize w.heap.size + 1 = g0_1 at HH ⊢
    generalize w.heap.size = g0_0 at HH ⊢
    refine (spec_ReserveList_any b A n cap p _ HT.out hp).mono ?_
    rw [HRL.out]
    rintro e w1 ⟨A2, n2, c2, rfl, hR, hb⟩
    have hl2 : (rlTo b p (rlN b p)).length = n2 := by have := hR.len; rwa [intRows_length] at this
    rw [rlTo_length] at hl2
    have HX := Lib.hid hR.rd
    replace HB := Lib.hid (below_all HB.out hb)
    replace HT := Lib.hid (HT.out.past hb)
    replace HH := Lib.hid (HH.out.past hb)
    clear hb
    clear hR
    generalize hys : rlTo b p (rlN b p) = ys at Q HX ⊢
    have HL := Lib.hid (show ys.length = n2 by rw [← hys, rlTo_length, hl2])
    rw [hl2] at Q hn1 hn2
    clear hys hl2 HRL
    have hn2i : (n2 : Int) ≤ 120 := by omega
    have hn1i : 1 ≤ (n2 : Int) := by omega
    go_wp2

    go_loopw [9, 10] (fun q i wr => ∃ k : Nat, k ≤ n2 ∧ i = .int .i64 k ∧ q = .int .i64 (topIx ys k : Nat) ∧ Below w1.heap.size w1 wr) (fun _ i _ => n2 - (intOf i).toNat)
    case atStart => exact ⟨0, by omega, rfl, rfl, Below.refl _ _⟩
    case round =>
      obtain ⟨k, hk, rfl, rfl, hb⟩ := hrel
      have HXr := Lib.hid (HX.out.past hb)
      have HBr := Lib.hid (HB.out.trans (hb.mono HB.out.size))
      have HW := Lib.hid hb; clear hb
      by_cases hlt : k < n2
      · obtain ⟨y, hy⟩ := get_of_lt (xs := ys) (k := k) (by rw [HL.out]; exact hlt)
        have hq := top_lt (ys := ys) (show 0 < n2 by omega) k (by omega)
        obtain ⟨z, hz⟩ := get_of_lt (xs := ys) (k := topIx ys k) (by rw [HL.out]; exact hq)
        obtain ⟨ad, rfl, had, hcy⟩ := HXr.out.int_at hy
        obtain ⟨ad', e, _, hcz⟩ := HXr.out.int_at hz
        obtain rfl : ad = ad' := by injection e
        have HE := Lib.hid (top_succ hy hz)
        generalize topIx ys k = q at *
        have hqi : (q : Int) < (n2 : Int) := by omega
        have hki : (k : Int) < (n2 : Int) := by omega
        have hq0 : 0 ≤ (q : Int) := by omega
        have hk0 : 0 ≤ (k : Int) := by omega
        have dy := fun u : Past wr => Past.cell hcy u
        have dz := fun u : Past wr => Past.cell hcz u
        clear hy hz e hcy hcz
        by_cases hgt : z < y
        · skip
          have hgb : decide (z < y) = true := by simp; omega
          rw [if_pos hgt] at HE
          clear hgt
          go_wp2
          refine wp_region_past (by kernel_rfl) (by kernel_rfl) ?_
          repeat (go_big_quiet_step (fail))
          refine wpQuiet_nil ?_
          rintro _ ⟨u, rfl⟩
          go_wp2
          go_roundw
          case rel => exact ⟨k + 1, by omega, by go_num, by rw [HE.out], HW.out.trans (u.2.mono HW.out.size)⟩
          case measure => simp [intOf]; omega
        · skip
          have hgb : decide (z < y) = false := by simp; omega
          rw [if_neg hgt] at HE
          clear hgt
          go_wp2
          refine wp_region_past (by kernel_rfl) (by kernel_rfl) ?_
          repeat (go_big_quiet_step (fail))
          refine wpQuiet_nil ?_
          rintro _ ⟨u, rfl⟩
          go_wp2
          go_roundw
          case rel => exact ⟨k + 1, by omega, by go_num, by rw [HE.out], HW.out.trans (u.2.mono HW.out.size)⟩
          case measure => simp [intOf]; omega
      · have hkn : k = n2 := by omega
        subst hkn
        have hq := top_lt (ys := ys) (show 0 < k by omega) k (by omega)
        obtain ⟨z, hz⟩ := get_of_lt (xs := ys) (k := topIx ys k) (by rw [HL.out]; exact hq)
        obtain ⟨ad, rfl, had, hcz⟩ := HXr.out.int_at hz
        have Q2 := Lib.hid (show gdm ys (topIx ys k) = z by unfold gdm; rw [List.getD_eq_getElem?_getD, hz]; rfl)
        generalize topIx ys k = q at *
        have hqi : (q : Int) < (k : Int) := by omega
        have hq0 : 0 ≤ (q : Int) := by omega
        clear hz
        go_wp2
        go_ret3
        exact ⟨by rw [Q.out, Q2.out]; rfl, HBr.out⟩
  · skip
    have Q := Lib.hid (show greatP b p = (0, 0, (rlP b p).2) by unfold greatP; rw [if_neg h0])
    have hz : ((rlP b p).2 != 0) = true := by simpa [bne] using h0
    clear h0
    go_enter Try.func23, Try.ntmps23
    have HL_bx := Lib.hid (Rd.box (HH.out.get 1 rfl))
    have HL_px := Lib.hid (Rd.box (HH.out.get 0 rfl))
    go_wp2_with (first | (refine wpList_load_agg rfl 28 _ rfl ⟨w.heap.size, 0, none⟩ rfl [.int .i64 b.first, .slice A n cap, .int .i64 b.rate] HL_bx.out _ Try.underlying28 rfl Bas.size ?_) | (refine wpList_load_agg rfl 35 _ rfl ⟨w.heap.size + 1, 0, none⟩ rfl [.int .i64 p.kind, .int .i64 p.age, .int .i64 p.years, .int .i64 p.sum, .int .i64 p.load] HL_px.out _ Try.underlying35 rfl Policy.size ?_))
    clear HL_bx HL_px
    generalize ((w.alloc (.cells #[.int .i64 b.first, .slice A n cap, .int .i64 b.rate] 28)).alloc (.cells #[.int .i64 p.kind, .int .i64 p.age, .int .i64 p.years, .int .i64 p.sum, .int .i64 p.load] 35)) = v0 at HB HH HT ⊢
    generalize w.heap.size + 1 = g0_1 at HH ⊢
    generalize w.heap.size = g0_0 at HH ⊢
    refine (spec_ReserveList_any b A n cap p _ HT.out hp).mono ?_
    rintro e w1 ⟨A2, n2, c2, rfl, hR, hb⟩
    replace HB := Lib.hid (below_all HB.out hb)
    replace HT := Lib.hid (HT.out.past hb)
    replace HH := Lib.hid (HH.out.past hb)
    clear hb
    clear hR
    generalize hc : (rlP b p).2 = c at hz Q ⊢
    clear hc
    have hcc : (c == 0) = false := by simpa [bne] using hz
    go_wp2
    go_ret3
    exact ⟨by rw [Q.out]; rfl, HB.out⟩
end Go.Proofs.Ytbjdbpdgacfcpaa
end

/- The risk: the program (printed by rl2.py). -/
section
namespace Go.Proofs.Ytbjdbpdgacfcpaa
open Go.RowKit Go.BigFrame

set_option maxRecDepth 20000 in
set_option maxHeartbeats 8000000 in
theorem impl_RiskAt_any (b : Bas) (A : Option Addr) (n cap : Nat) (p : Policy) (k : Int) (w : World) (hB : BasT w A n cap b) (hp : p.fits) (hk : In64 k) :
    Calls Try.prog 25 #[.agg #[.int .i64 b.first, .slice A n cap, .int .i64 b.rate], .agg p.row.toArray, .int .i64 k] w fun e w' => e = .returned (.tuple #[.int .i64 (riskP b p k).1, .int .i64 (riskP b p k).2]) ∧ Below w.heap.size w w' := by
  unfold Policy.row
  have HB := Lib.hid (Below.refl w.heap.size w)
  have HH := Lib.hid (Held.nil w)
  have HT := Lib.hid hB; clear hB
  obtain ⟨hb, hr0, hr1⟩ := box2 (w := w) (tx := 28) (ty := 35) (X := [.int .i64 b.first, .slice A n cap, .int .i64 b.rate]) (Y := [.int .i64 p.kind, .int .i64 p.age, .int .i64 p.years, .int .i64 p.sum, .int .i64 p.load])
  replace HB := Lib.hid (below_all HB.out hb)
  replace HT := Lib.hid (HT.out.past hb)
  replace HH := Lib.hid (((HH.out.past hb).cons hr0).cons hr1)
  clear hb hr0 hr1
  by_cases h0 : resCode b p k = 0
  · skip
    have HY := Lib.hid (year_ok h0)
    have HPB := Lib.hid (res_pol h0)
    obtain ⟨hn0, hn1, hn2⟩ := rlN_cast HY.out.toPolOk
    have hk0 := HY.out.k0
    have hk1 := HY.out.k1
    have hs0 := HY.out.sum0; have hs1 := HY.out.sum1; have hq0 := HY.out.kind0; have hq1 := HY.out.kind1
    have H0 := Lib.hid h0
    have QR := Lib.hid (show riskP b p k = if k = durP b p - 1 then (if p.kind = 2 then 0 else paidR p, 0) else if partD b p (k + 1) = 0 then (0, 5) else (paidR p - resAt b p (k + 1), 0) by unfold riskP; rw [if_pos h0])
    obtain ⟨kn, hkn⟩ := Int.eq_ofNat_of_zero_le hk0
    have HKN := Lib.hid hkn; clear hkn
    have HNC := Lib.hid hn0; clear hn0 h0
    go_enter Try.func25, Try.ntmps25
    have HL_bx := Lib.hid (Rd.box (HH.out.get 1 rfl))
    have HL_px := Lib.hid (Rd.box (HH.out.get 0 rfl))
    go_wp2_with (first | (refine wpList_load_agg rfl 28 _ rfl ⟨w.heap.size, 0, none⟩ rfl [.int .i64 b.first, .slice A n cap, .int .i64 b.rate] HL_bx.out _ Try.underlying28 rfl Bas.size ?_) | (refine wpList_load_agg rfl 35 _ rfl ⟨w.heap.size + 1, 0, none⟩ rfl [.int .i64 p.kind, .int .i64 p.age, .int .i64 p.years, .int .i64 p.sum, .int .i64 p.load] HL_px.out _ Try.underlying35 rfl Policy.size ?_))
    clear HL_bx HL_px
    generalize ((w.alloc (.cells #[.int .i64 b.first, .slice A n cap, .int .i64 b.rate] 28)).alloc (.cells #[.int .i64 p.kind, .int .i64 p.age, .int .i64 p.years, .int .i64 p.sum, .int .i64 p.load] 35)) = v0 at HB HH HT ⊢
    generalize w.heap.size + 1 = g0_1 at HH ⊢
    generalize w.heap.size = g0_0 at HH ⊢
    refine (impl_checkReserve_ok b A n cap p k _ HT.out hp hk H0.out).mono ?_
    rintro e w1 ⟨rfl, hb⟩
    replace HB := Lib.hid (below_all HB.out hb)
    replace HT := Lib.hid (HT.out.past hb)
    replace HH := Lib.hid (HH.out.past hb)
    clear hb
    obtain ⟨hb, hr0⟩ := box1 (w := w1) (tx := 90) (X := [.int .i64 (partT b p k), .int .i64 (partB b p k), .int .i64 (partD b p k)])
    replace HB := Lib.hid (below_all HB.out hb)
    replace HT := Lib.hid (HT.out.past hb)
    replace HH := Lib.hid ((HH.out.past hb).cons hr0)
    clear hb hr0
    go_upto_region 4 with fail
    generalize (w1.alloc (.cells #[.int .i64 (partT b p k), .int .i64 (partB b p k), .int .i64 (partD b p k)] 90)) = v1 at HB HH HT ⊢
    generalize w1.heap.size = g1_0 at HH ⊢
    have p0 : v1.cell? ⟨g0_1, 0, none⟩ = some (.int .i64 p.kind) := Rd.bcell (HH.out.get 1 rfl) 0 rfl
    have p1 : v1.cell? ⟨g0_1, 1, none⟩ = some (.int .i64 p.age) := Rd.bcell (HH.out.get 1 rfl) 1 rfl
    have p2 : v1.cell? ⟨g0_1, 2, none⟩ = some (.int .i64 p.years) := Rd.bcell (HH.out.get 1 rfl) 2 rfl
    have p3 : v1.cell? ⟨g0_1, 3, none⟩ = some (.int .i64 p.sum) := Rd.bcell (HH.out.get 1 rfl) 3 rfl
    have p4 : v1.cell? ⟨g0_1, 4, none⟩ = some (.int .i64 p.load) := Rd.bcell (HH.out.get 1 rfl) 4 rfl
    by_cases h3 : p.kind = 3
    · skip
      have hkb : (p.kind == 3) = true := by simp [h3]
      have HPD := Lib.hid (show paidR p = 0 from if_pos h3)
      clear h3
      have HL_bx := Lib.hid (Rd.box (HH.out.get 2 rfl))
      have HL_px := Lib.hid (Rd.box (HH.out.get 1 rfl))
      go_wp2_with (first | (refine wpList_load_agg rfl 28 _ rfl ⟨g0_0, 0, none⟩ rfl [.int .i64 b.first, .slice A n cap, .int .i64 b.rate] HL_bx.out _ Try.underlying28 rfl Bas.size ?_) | (refine wpList_load_agg rfl 35 _ rfl ⟨g0_1, 0, none⟩ rfl [.int .i64 p.kind, .int .i64 p.age, .int .i64 p.years, .int .i64 p.sum, .int .i64 p.load] HL_px.out _ Try.underlying35 rfl Policy.size ?_))
      clear HL_bx HL_px
      clear p0 p1 p2 p3 p4
      refine (impl_reserveList_any b A n cap p _ HT.out HPB.out).mono ?_
      rintro e w2 ⟨A2, c2, rfl, hR, hb⟩
      have HR := Lib.hid hR.rd
      replace HB := Lib.hid (below_all HB.out hb)
      replace HT := Lib.hid (HT.out.past hb)
      replace HH := Lib.hid (HH.out.past hb)
      clear hb
      clear hR
      generalize hN : rlN b p = N at HR HNC hn1 hn2 ⊢
      have HN := Lib.hid hN; clear hN
      have p0 : w2.cell? ⟨g0_1, 0, none⟩ = some (.int .i64 p.kind) := Rd.bcell (HH.out.get 1 rfl) 0 rfl
      have p1 : w2.cell? ⟨g0_1, 1, none⟩ = some (.int .i64 p.age) := Rd.bcell (HH.out.get 1 rfl) 1 rfl
      have p2 : w2.cell? ⟨g0_1, 2, none⟩ = some (.int .i64 p.years) := Rd.bcell (HH.out.get 1 rfl) 2 rfl
      have p3 : w2.cell? ⟨g0_1, 3, none⟩ = some (.int .i64 p.sum) := Rd.bcell (HH.out.get 1 rfl) 3 rfl
      have p4 : w2.cell? ⟨g0_1, 4, none⟩ = some (.int .i64 p.load) := Rd.bcell (HH.out.get 1 rfl) 4 rfl
      by_cases hl : k = (N : Int) - 1
      · skip
        have QE : k = durP b p - 1 := by have := HNC.out; omega
        have hke : (k == (N : Int) - 1) = true := by simp; have := HNC.out; omega
        have QS := Lib.hid (QR.out.trans (if_pos QE))
        clear QE hl
        by_cases h2 : p.kind = 2
        · skip
          have hkc : (p.kind == 2) = true := by simp [h2]
          have QT := Lib.hid (QS.out.trans (show ((if p.kind = 2 then 0 else paidR p : Int), (0 : Int)) = (0, 0) by rw [if_pos h2]))
          clear h2
          clear HPD
          go_wp2_with (go_at_call 82; refine (intsLen_any A2 N c2 _ (by omega)).mono ?_; rintro e w' ⟨rfl, rfl⟩)
          go_ret2
          exact ⟨by rw [QT.out]; rfl, HB.out⟩
        · skip
          have hkc : (p.kind == 2) = false := by simp [h2]
          have QT := Lib.hid (QS.out.trans (show ((if p.kind = 2 then 0 else paidR p : Int), (0 : Int)) = (paidR p, 0) by rw [if_neg h2]))
          clear h2
          rw [HPD.out] at QT
          go_wp2_with (go_at_call 82; refine (intsLen_any A2 N c2 _ (by omega)).mono ?_; rintro e w' ⟨rfl, rfl⟩)
          go_ret2
          exact ⟨by rw [QT.out]; rfl, HB.out⟩
      · skip
        have QE : ¬ k = durP b p - 1 := by have := HNC.out; omega
        have hke : (k == (N : Int) - 1) = false := by simp; have := HNC.out; omega
        have QS := Lib.hid (QR.out.trans (if_neg QE))
        have hk1n : kn + 1 < N := by have := HNC.out; have := HKN.out; omega
        have HR2 := HR
        rw [← HN.out] at HR2
        obtain ⟨ad, hA2, had, hcz⟩ := HR2.out.int_at (rlTo_get b p (show kn + 1 < rlN b p by rw [HN.out]; exact hk1n))
        subst hA2
        have hr := rlAt_bound HY.out.toPolOk (show kn + 1 < rlN b p by rw [HN.out]; exact hk1n)
        obtain ⟨q, hq⟩ : ∃ q, q = rlAt b p (kn + 1) := ⟨_, rfl⟩
        rw [← hq] at hcz hr
        have HQ := Lib.hid hq; clear hq HR2 QE hl
        have hki : k + 1 < (N : Int) := by have := HKN.out; omega
        have hkt : (k + 1).toNat = kn + 1 := by have := HKN.out; omega
        have hkj : k + 1 = ((kn + 1 : Nat) : Int) := by have := HKN.out; omega
        have HKT := Lib.hid hkj; clear hkj
        rw [← hkt] at hcz
        clear hkt
        have hk9 : 0 ≤ k + 1 := by omega
        obtain ⟨r0, r1⟩ := hr
        by_cases hng : q < 0
        · skip
          have hqb : decide (q < 0) = true := by simp; omega
          have QT := Lib.hid (QS.out.trans (if_pos (show partD b p (k + 1) = 0 by rw [HKT.out]; exact Classical.byContradiction fun hc => by have h1 := HQ.out; unfold rlAt at h1; rw [if_neg hc] at h1; have h2 := res_bound (year_at HY.out.toPolOk (show kn + 1 < rlN b p by rw [HN.out]; exact hk1n) hc); omega)))
          clear hng
          go_wp2_with (go_at_call 82; refine (intsLen_any _ N c2 _ (by omega)).mono ?_; rintro e w' ⟨rfl, rfl⟩)
          go_ret2
          exact ⟨by rw [QT.out]; first | rfl | simp, HB.out⟩
        · skip
          have hqb : decide (q < 0) = false := by simp; omega
          have QU : rlAt b p (kn + 1) = resAt b p (k + 1) ∧ ¬ partD b p (k + 1) = 0 := by
            rw [HKT.out]
            have h1 := HQ.out
            unfold rlAt at h1 ⊢
            by_cases hc : partD b p ((kn + 1 : Nat) : Int) = 0
            · rw [if_pos hc] at h1; omega
            · exact ⟨if_neg hc, hc⟩
          have QT := Lib.hid (QS.out.trans (if_neg QU.2))
          rw [← QU.1, ← HQ.out, HPD.out] at QT
          clear QU
          clear hng
          go_wp2_with (go_at_call 82; refine (intsLen_any _ N c2 _ (by omega)).mono ?_; rintro e w' ⟨rfl, rfl⟩)
          go_ret2
          exact ⟨by rw [QT.out]; first | rfl | simp, HB.out⟩
    · skip
      have hkb : (p.kind == 3) = false := by simp [h3]
      have HPD := Lib.hid (show paidR p = p.sum from if_neg h3)
      clear h3
      have HL_bx := Lib.hid (Rd.box (HH.out.get 2 rfl))
      have HL_px := Lib.hid (Rd.box (HH.out.get 1 rfl))
      go_wp2_with (first | (refine wpList_load_agg rfl 28 _ rfl ⟨g0_0, 0, none⟩ rfl [.int .i64 b.first, .slice A n cap, .int .i64 b.rate] HL_bx.out _ Try.underlying28 rfl Bas.size ?_) | (refine wpList_load_agg rfl 35 _ rfl ⟨g0_1, 0, none⟩ rfl [.int .i64 p.kind, .int .i64 p.age, .int .i64 p.years, .int .i64 p.sum, .int .i64 p.load] HL_px.out _ Try.underlying35 rfl Policy.size ?_))
      clear HL_bx HL_px
      clear p0 p1 p2 p3 p4
      refine (impl_reserveList_any b A n cap p _ HT.out HPB.out).mono ?_
      rintro e w2 ⟨A2, c2, rfl, hR, hb⟩
      have HR := Lib.hid hR.rd
      replace HB := Lib.hid (below_all HB.out hb)
      replace HT := Lib.hid (HT.out.past hb)
      replace HH := Lib.hid (HH.out.past hb)
      clear hb
      clear hR
      generalize hN : rlN b p = N at HR HNC hn1 hn2 ⊢
      have HN := Lib.hid hN; clear hN
      have p0 : w2.cell? ⟨g0_1, 0, none⟩ = some (.int .i64 p.kind) := Rd.bcell (HH.out.get 1 rfl) 0 rfl
      have p1 : w2.cell? ⟨g0_1, 1, none⟩ = some (.int .i64 p.age) := Rd.bcell (HH.out.get 1 rfl) 1 rfl
      have p2 : w2.cell? ⟨g0_1, 2, none⟩ = some (.int .i64 p.years) := Rd.bcell (HH.out.get 1 rfl) 2 rfl
      have p3 : w2.cell? ⟨g0_1, 3, none⟩ = some (.int .i64 p.sum) := Rd.bcell (HH.out.get 1 rfl) 3 rfl
      have p4 : w2.cell? ⟨g0_1, 4, none⟩ = some (.int .i64 p.load) := Rd.bcell (HH.out.get 1 rfl) 4 rfl
      by_cases hl : k = (N : Int) - 1
      · skip
        have QE : k = durP b p - 1 := by have := HNC.out; omega
        have hke : (k == (N : Int) - 1) = true := by simp; have := HNC.out; omega
        have QS := Lib.hid (QR.out.trans (if_pos QE))
        clear QE hl
        by_cases h2 : p.kind = 2
        · skip
          have hkc : (p.kind == 2) = true := by simp [h2]
          have QT := Lib.hid (QS.out.trans (show ((if p.kind = 2 then 0 else paidR p : Int), (0 : Int)) = (0, 0) by rw [if_pos h2]))
          clear h2
          clear HPD
          go_wp2_with (go_at_call 82; refine (intsLen_any A2 N c2 _ (by omega)).mono ?_; rintro e w' ⟨rfl, rfl⟩)
          go_ret2
          exact ⟨by rw [QT.out]; rfl, HB.out⟩
        · skip
          have hkc : (p.kind == 2) = false := by simp [h2]
          have QT := Lib.hid (QS.out.trans (show ((if p.kind = 2 then 0 else paidR p : Int), (0 : Int)) = (paidR p, 0) by rw [if_neg h2]))
          clear h2
          rw [HPD.out] at QT
          go_wp2_with (go_at_call 82; refine (intsLen_any A2 N c2 _ (by omega)).mono ?_; rintro e w' ⟨rfl, rfl⟩)
          go_ret2
          exact ⟨by rw [QT.out]; rfl, HB.out⟩
      · skip
        have QE : ¬ k = durP b p - 1 := by have := HNC.out; omega
        have hke : (k == (N : Int) - 1) = false := by simp; have := HNC.out; omega
        have QS := Lib.hid (QR.out.trans (if_neg QE))
        have hk1n : kn + 1 < N := by have := HNC.out; have := HKN.out; omega
        have HR2 := HR
        rw [← HN.out] at HR2
        obtain ⟨ad, hA2, had, hcz⟩ := HR2.out.int_at (rlTo_get b p (show kn + 1 < rlN b p by rw [HN.out]; exact hk1n))
        subst hA2
        have hr := rlAt_bound HY.out.toPolOk (show kn + 1 < rlN b p by rw [HN.out]; exact hk1n)
        obtain ⟨q, hq⟩ : ∃ q, q = rlAt b p (kn + 1) := ⟨_, rfl⟩
        rw [← hq] at hcz hr
        have HQ := Lib.hid hq; clear hq HR2 QE hl
        have hki : k + 1 < (N : Int) := by have := HKN.out; omega
        have hkt : (k + 1).toNat = kn + 1 := by have := HKN.out; omega
        have hkj : k + 1 = ((kn + 1 : Nat) : Int) := by have := HKN.out; omega
        have HKT := Lib.hid hkj; clear hkj
        rw [← hkt] at hcz
        clear hkt
        have hk9 : 0 ≤ k + 1 := by omega
        obtain ⟨r0, r1⟩ := hr
        by_cases hng : q < 0
        · skip
          have hqb : decide (q < 0) = true := by simp; omega
          have QT := Lib.hid (QS.out.trans (if_pos (show partD b p (k + 1) = 0 by rw [HKT.out]; exact Classical.byContradiction fun hc => by have h1 := HQ.out; unfold rlAt at h1; rw [if_neg hc] at h1; have h2 := res_bound (year_at HY.out.toPolOk (show kn + 1 < rlN b p by rw [HN.out]; exact hk1n) hc); omega)))
          clear hng
          go_wp2_with (go_at_call 82; refine (intsLen_any _ N c2 _ (by omega)).mono ?_; rintro e w' ⟨rfl, rfl⟩)
          go_ret2
          exact ⟨by rw [QT.out]; first | rfl | simp, HB.out⟩
        · skip
          have hqb : decide (q < 0) = false := by simp; omega
          have QU : rlAt b p (kn + 1) = resAt b p (k + 1) ∧ ¬ partD b p (k + 1) = 0 := by
            rw [HKT.out]
            have h1 := HQ.out
            unfold rlAt at h1 ⊢
            by_cases hc : partD b p ((kn + 1 : Nat) : Int) = 0
            · rw [if_pos hc] at h1; omega
            · exact ⟨if_neg hc, hc⟩
          have QT := Lib.hid (QS.out.trans (if_neg QU.2))
          rw [← QU.1, ← HQ.out, HPD.out] at QT
          clear QU
          clear hng
          go_wp2_with (go_at_call 82; refine (intsLen_any _ N c2 _ (by omega)).mono ?_; rintro e w' ⟨rfl, rfl⟩)
          go_ret2
          exact ⟨by rw [QT.out]; first | rfl | simp, HB.out⟩
  · skip
    have Q := Lib.hid (show riskP b p k = (0, resCode b p k) by unfold riskP; rw [if_neg h0])
    have hz : (resCode b p k != 0) = true := by simpa [bne] using h0
    go_enter Try.func25, Try.ntmps25
    have HL_bx := Lib.hid (Rd.box (HH.out.get 1 rfl))
    have HL_px := Lib.hid (Rd.box (HH.out.get 0 rfl))
    go_wp2_with (first | (refine wpList_load_agg rfl 28 _ rfl ⟨w.heap.size, 0, none⟩ rfl [.int .i64 b.first, .slice A n cap, .int .i64 b.rate] HL_bx.out _ Try.underlying28 rfl Bas.size ?_) | (refine wpList_load_agg rfl 35 _ rfl ⟨w.heap.size + 1, 0, none⟩ rfl [.int .i64 p.kind, .int .i64 p.age, .int .i64 p.years, .int .i64 p.sum, .int .i64 p.load] HL_px.out _ Try.underlying35 rfl Policy.size ?_))
    clear HL_bx HL_px
    generalize ((w.alloc (.cells #[.int .i64 b.first, .slice A n cap, .int .i64 b.rate] 28)).alloc (.cells #[.int .i64 p.kind, .int .i64 p.age, .int .i64 p.years, .int .i64 p.sum, .int .i64 p.load] 35)) = v0 at HB HH HT ⊢
    generalize w.heap.size + 1 = g0_1 at HH ⊢
    generalize w.heap.size = g0_0 at HH ⊢
    refine (impl_checkReserve_no b A n cap p k _ HT.out hp hk h0).mono ?_
    rintro e w1 ⟨rfl, hb⟩
    replace HB := Lib.hid (below_all HB.out hb)
    replace HT := Lib.hid (HT.out.past hb)
    replace HH := Lib.hid (HH.out.past hb)
    clear hb
    obtain ⟨hb, hr0⟩ := box1 (w := w1) (tx := 90) (X := [.int .i64 0, .int .i64 0, .int .i64 0])
    replace HB := Lib.hid (below_all HB.out hb)
    replace HT := Lib.hid (HT.out.past hb)
    replace HH := Lib.hid ((HH.out.past hb).cons hr0)
    clear hb hr0
    clear h0
    generalize hc : resCode b p k = c at hz Q ⊢
    clear hc
    have hcc : (c == 0) = false := by simpa [bne] using hz
    go_wp2
    go_ret2
    exact ⟨by rw [Q.out]; rfl, HB.out⟩
end Go.Proofs.Ytbjdbpdgacfcpaa
end

/- The duration of whatever policy: the reference (printed by rl2.py). -/
section
namespace Go.Proofs.Ytbjdbpdgacfcpaa
open Go.RowKit Go.BigFrame

set_option maxRecDepth 20000 in
set_option maxHeartbeats 8000000 in
theorem spec_l10Duration_wide (b : Bas) (A : Option Addr) (n cap : Nat) (p : Policy) (w : World) (hB : BasT w A n cap b) (_hp : p.fits) (hw : DurW b n p) :
    Calls Try.prog 77 #[.agg #[.int .i64 b.first, .slice A n cap, .int .i64 b.rate], .agg p.row.toArray] w fun e w' => ∃ z : Int, e = .returned (.int .i64 z) ∧ (-10000000000 ≤ z ∧ z ≤ 10000000000) ∧ Below w.heap.size w w' := by
  unfold Policy.row
  have HB := Lib.hid (Below.refl w.heap.size w)
  have HH := Lib.hid (Held.nil w)
  have HT := Lib.hid hB; clear hB
  obtain ⟨hb, hr0, hr1⟩ := box2 (w := w) (tx := 28) (ty := 35) (X := [.int .i64 b.first, .slice A n cap, .int .i64 b.rate]) (Y := [.int .i64 p.kind, .int .i64 p.age, .int .i64 p.years, .int .i64 p.sum, .int .i64 p.load])
  replace HB := Lib.hid (below_all HB.out hb)
  replace HT := Lib.hid (HT.out.past hb)
  replace HH := Lib.hid (((HH.out.past hb).cons hr0).cons hr1)
  clear hb hr0 hr1
  obtain ⟨f0, f1, n1, a0, a1, y0, y1⟩ := hw
  by_cases hk : p.kind = 0
  · skip
    have hkb : (p.kind == 0) = true := by simp [hk]
    clear hk
    go_enter Try.func77, Try.ntmps77
    go_upto_region 1 with fail
    generalize ((w.alloc (.cells #[.int .i64 b.first, .slice A n cap, .int .i64 b.rate] 28)).alloc (.cells #[.int .i64 p.kind, .int .i64 p.age, .int .i64 p.years, .int .i64 p.sum, .int .i64 p.load] 35)) = v0 at HB HH HT ⊢
    generalize w.heap.size + 1 = g0_1 at HH ⊢
    generalize w.heap.size = g0_0 at HH ⊢
    have d0 := fun yq : Past v0 => Past.cell (p := ⟨g0_1, 0, none⟩) (v := .int .i64 p.kind) (Rd.bcell (HH.out.get 0 rfl) 0 rfl) yq
    have d1 := fun yq : Past v0 => Past.cell (p := ⟨g0_1, 1, none⟩) (v := .int .i64 p.age) (Rd.bcell (HH.out.get 0 rfl) 1 rfl) yq
    have d2 := fun yq : Past v0 => Past.cell (p := ⟨g0_1, 2, none⟩) (v := .int .i64 p.years) (Rd.bcell (HH.out.get 0 rfl) 2 rfl) yq
    have d3 := fun yq : Past v0 => Past.cell (p := ⟨g0_1, 3, none⟩) (v := .int .i64 p.sum) (Rd.bcell (HH.out.get 0 rfl) 3 rfl) yq
    have d4 := fun yq : Past v0 => Past.cell (p := ⟨g0_1, 4, none⟩) (v := .int .i64 p.load) (Rd.bcell (HH.out.get 0 rfl) 4 rfl) yq
    have p0 : v0.cell? ⟨g0_1, 0, none⟩ = some (.int .i64 p.kind) := Rd.bcell (HH.out.get 0 rfl) 0 rfl
    have p1 : v0.cell? ⟨g0_1, 1, none⟩ = some (.int .i64 p.age) := Rd.bcell (HH.out.get 0 rfl) 1 rfl
    have p2 : v0.cell? ⟨g0_1, 2, none⟩ = some (.int .i64 p.years) := Rd.bcell (HH.out.get 0 rfl) 2 rfl
    have p3 : v0.cell? ⟨g0_1, 3, none⟩ = some (.int .i64 p.sum) := Rd.bcell (HH.out.get 0 rfl) 3 rfl
    have p4 : v0.cell? ⟨g0_1, 4, none⟩ = some (.int .i64 p.load) := Rd.bcell (HH.out.get 0 rfl) 4 rfl
    go_wp2
    clear p0 p1 p2 p3 p4
    have hQ_tx := Lib.hid (Past.cells' (Rd.boxT (HH.out.get 1 rfl)))
    refine wp_region_past (by kernel_rfl) (by kernel_rfl) ?_
    repeat (first | (go_big_quiet_want; (first | (refine quiet_load_agg 26 _ rfl ⟨g0_0, 0, none⟩ rfl [.int .i64 b.first, .slice A n cap] hQ_tx.out _ Try.underlying26 rfl Tab.size ?_)); go_simp; go_big_quiet_on) | go_big_quiet_step ((go_at_call 119; exact past_call (l03End_draw b.first A n cap _ ⟨by omega, by omega⟩ (by omega)))))
    refine wpQuiet_nil ?_
    rintro _ ⟨y, rfl⟩
    have hb := y.2
    replace HB := Lib.hid (below_all HB.out hb)
    replace HT := Lib.hid (HT.out.past hb)
    replace HH := Lib.hid (HH.out.past hb)
    clear hb
    clear hQ_tx
    go_wp2
    go_ret
    exact ⟨_, rfl, ⟨by omega, by omega⟩, HB.out⟩
  · skip
    have hkb : (p.kind == 0) = false := by simp [hk]
    clear hk
    go_enter Try.func77, Try.ntmps77
    go_upto_region 1 with fail
    generalize ((w.alloc (.cells #[.int .i64 b.first, .slice A n cap, .int .i64 b.rate] 28)).alloc (.cells #[.int .i64 p.kind, .int .i64 p.age, .int .i64 p.years, .int .i64 p.sum, .int .i64 p.load] 35)) = v0 at HB HH HT ⊢
    generalize w.heap.size + 1 = g0_1 at HH ⊢
    generalize w.heap.size = g0_0 at HH ⊢
    have p0 : v0.cell? ⟨g0_1, 0, none⟩ = some (.int .i64 p.kind) := Rd.bcell (HH.out.get 0 rfl) 0 rfl
    have p1 : v0.cell? ⟨g0_1, 1, none⟩ = some (.int .i64 p.age) := Rd.bcell (HH.out.get 0 rfl) 1 rfl
    have p2 : v0.cell? ⟨g0_1, 2, none⟩ = some (.int .i64 p.years) := Rd.bcell (HH.out.get 0 rfl) 2 rfl
    have p3 : v0.cell? ⟨g0_1, 3, none⟩ = some (.int .i64 p.sum) := Rd.bcell (HH.out.get 0 rfl) 3 rfl
    have p4 : v0.cell? ⟨g0_1, 4, none⟩ = some (.int .i64 p.load) := Rd.bcell (HH.out.get 0 rfl) 4 rfl
    go_wp2
    go_ret
    exact ⟨_, rfl, ⟨by omega, by omega⟩, HB.out⟩
end Go.Proofs.Ytbjdbpdgacfcpaa
end

/- The risk: the reference (printed by rl2.py). -/
section
namespace Go.Proofs.Ytbjdbpdgacfcpaa
open Go.RowKit Go.BigFrame

set_option maxRecDepth 20000 in
set_option maxHeartbeats 8000000 in
theorem spec_RiskAt_any (b : Bas) (A : Option Addr) (n cap : Nat) (p : Policy) (k : Int) (w : World) (hB : BasT w A n cap b) (hp : p.fits) (hk : In64 k) (hw : DurW b n p) :
    Calls Try.prog 26 #[.agg #[.int .i64 b.first, .slice A n cap, .int .i64 b.rate], .agg p.row.toArray, .int .i64 k] w fun e w' => e = .returned (.tuple #[.int .i64 (riskP b p k).1, .int .i64 (riskP b p k).2]) ∧ Below w.heap.size w w' := by
  unfold Policy.row
  have HB := Lib.hid (Below.refl w.heap.size w)
  have HH := Lib.hid (Held.nil w)
  have HT := Lib.hid hB; clear hB
  obtain ⟨hb, hr0, hr1⟩ := box2 (w := w) (tx := 28) (ty := 35) (X := [.int .i64 b.first, .slice A n cap, .int .i64 b.rate]) (Y := [.int .i64 p.kind, .int .i64 p.age, .int .i64 p.years, .int .i64 p.sum, .int .i64 p.load])
  replace HB := Lib.hid (below_all HB.out hb)
  replace HT := Lib.hid (HT.out.past hb)
  replace HH := Lib.hid (((HH.out.past hb).cons hr0).cons hr1)
  clear hb hr0 hr1
  by_cases h0 : resCode b p k = 0
  · skip
    have HY := Lib.hid (year_ok h0)
    have HPO := Lib.hid HY.out.toPolOk
    have HPB := Lib.hid (res_pol h0)
    obtain ⟨hn0, hn1, hn2⟩ := rlN_cast HY.out.toPolOk
    have hk0 := HY.out.k0
    have hk1 := HY.out.k1
    have hd9 := dur_small HPO.out
    have hs0 := HY.out.sum0; have hs1 := HY.out.sum1; have hq0 := HY.out.kind0; have hq1 := HY.out.kind1
    have H0 := Lib.hid h0
    have QR := Lib.hid (show riskP b p k = if k = durP b p - 1 then (if p.kind = 2 then 0 else paidR p, 0) else if partD b p (k + 1) = 0 then (0, 5) else (paidR p - resAt b p (k + 1), 0) by unfold riskP; rw [if_pos h0])
    clear hn0 h0
    go_enter Try.func26, Try.ntmps26
    have HL_bx := Lib.hid (Rd.box (HH.out.get 1 rfl))
    have HL_px := Lib.hid (Rd.box (HH.out.get 0 rfl))
    go_wp2_with (first | (refine wpList_load_agg rfl 28 _ rfl ⟨w.heap.size, 0, none⟩ rfl [.int .i64 b.first, .slice A n cap, .int .i64 b.rate] HL_bx.out _ Try.underlying28 rfl Bas.size ?_) | (refine wpList_load_agg rfl 35 _ rfl ⟨w.heap.size + 1, 0, none⟩ rfl [.int .i64 p.kind, .int .i64 p.age, .int .i64 p.years, .int .i64 p.sum, .int .i64 p.load] HL_px.out _ Try.underlying35 rfl Policy.size ?_))
    clear HL_bx HL_px
    generalize ((w.alloc (.cells #[.int .i64 b.first, .slice A n cap, .int .i64 b.rate] 28)).alloc (.cells #[.int .i64 p.kind, .int .i64 p.age, .int .i64 p.years, .int .i64 p.sum, .int .i64 p.load] 35)) = v0 at HB HH HT ⊢
    generalize w.heap.size + 1 = g0_1 at HH ⊢
    generalize w.heap.size = g0_0 at HH ⊢
    refine (spec_l11Code_any b A n cap p k _ HT.out hp hk).mono ?_
    rw [H0.out]
    rintro e w1 ⟨rfl, hb⟩
    replace HB := Lib.hid (below_all HB.out hb)
    replace HT := Lib.hid (HT.out.past hb)
    replace HH := Lib.hid (HH.out.past hb)
    clear hb
    have HL_bx := Lib.hid (Rd.box (HH.out.get 1 rfl))
    have HL_px := Lib.hid (Rd.box (HH.out.get 0 rfl))
    go_wp2_with (first | (refine wpList_load_agg rfl 28 _ rfl ⟨g0_0, 0, none⟩ rfl [.int .i64 b.first, .slice A n cap, .int .i64 b.rate] HL_bx.out _ Try.underlying28 rfl Bas.size ?_) | (refine wpList_load_agg rfl 35 _ rfl ⟨g0_1, 0, none⟩ rfl [.int .i64 p.kind, .int .i64 p.age, .int .i64 p.years, .int .i64 p.sum, .int .i64 p.load] HL_px.out _ Try.underlying35 rfl Policy.size ?_))
    clear HL_bx HL_px
    refine (spec_l10Duration_any b A n cap p _ HT.out HPO.out).mono ?_
    rintro e w2 ⟨rfl, hb⟩
    replace HB := Lib.hid (below_all HB.out hb)
    replace HT := Lib.hid (HT.out.past hb)
    replace HH := Lib.hid (HH.out.past hb)
    clear hb
    by_cases hl : k = durP b p - 1
    · skip
      have QS := Lib.hid (QR.out.trans (if_pos hl))
      have hlb : decide (k < durP b p - 1) = false := by simp; omega
      have hlc : (k == durP b p - 1) = true := by simp [hl]
      clear hl
      rcases (show p.kind = 3 ∨ p.kind = 2 ∨ (¬ p.kind = 3 ∧ ¬ p.kind = 2) by omega) with hkk | hkk | hkk
      · skip
        have hka : (p.kind == 3) = true := by simp [hkk]
        have hkb : (p.kind == 2) = false := by simp [hkk]
        have QT := Lib.hid (QS.out.trans (show ((if p.kind = 2 then 0 else paidR p : Int), (0 : Int)) = (0, 0) by unfold paidR; simp [hkk]))
        clear hkk
        have p0 : w2.cell? ⟨g0_1, 0, none⟩ = some (.int .i64 p.kind) := Rd.bcell (HH.out.get 0 rfl) 0 rfl
        have p1 : w2.cell? ⟨g0_1, 1, none⟩ = some (.int .i64 p.age) := Rd.bcell (HH.out.get 0 rfl) 1 rfl
        have p2 : w2.cell? ⟨g0_1, 2, none⟩ = some (.int .i64 p.years) := Rd.bcell (HH.out.get 0 rfl) 2 rfl
        have p3 : w2.cell? ⟨g0_1, 3, none⟩ = some (.int .i64 p.sum) := Rd.bcell (HH.out.get 0 rfl) 3 rfl
        have p4 : w2.cell? ⟨g0_1, 4, none⟩ = some (.int .i64 p.load) := Rd.bcell (HH.out.get 0 rfl) 4 rfl
        go_wp2
        go_ret2
        exact ⟨by rw [QT.out]; rfl, HB.out⟩
      · skip
        have hka : (p.kind == 3) = false := by simp [hkk]
        have hkb : (p.kind == 2) = true := by simp [hkk]
        have QT := Lib.hid (QS.out.trans (show ((if p.kind = 2 then 0 else paidR p : Int), (0 : Int)) = (0, 0) by unfold paidR; simp [hkk]))
        clear hkk
        have p0 : w2.cell? ⟨g0_1, 0, none⟩ = some (.int .i64 p.kind) := Rd.bcell (HH.out.get 0 rfl) 0 rfl
        have p1 : w2.cell? ⟨g0_1, 1, none⟩ = some (.int .i64 p.age) := Rd.bcell (HH.out.get 0 rfl) 1 rfl
        have p2 : w2.cell? ⟨g0_1, 2, none⟩ = some (.int .i64 p.years) := Rd.bcell (HH.out.get 0 rfl) 2 rfl
        have p3 : w2.cell? ⟨g0_1, 3, none⟩ = some (.int .i64 p.sum) := Rd.bcell (HH.out.get 0 rfl) 3 rfl
        have p4 : w2.cell? ⟨g0_1, 4, none⟩ = some (.int .i64 p.load) := Rd.bcell (HH.out.get 0 rfl) 4 rfl
        go_wp2
        go_ret2
        exact ⟨by rw [QT.out]; rfl, HB.out⟩
      · skip
        have hka : (p.kind == 3) = false := by simp [hkk]
        have hkb : (p.kind == 2) = false := by simp [hkk]
        have QT := Lib.hid (QS.out.trans (show ((if p.kind = 2 then 0 else paidR p : Int), (0 : Int)) = (p.sum, 0) by unfold paidR; rw [if_neg (by omega), if_neg (by omega)]))
        clear hkk
        have p0 : w2.cell? ⟨g0_1, 0, none⟩ = some (.int .i64 p.kind) := Rd.bcell (HH.out.get 0 rfl) 0 rfl
        have p1 : w2.cell? ⟨g0_1, 1, none⟩ = some (.int .i64 p.age) := Rd.bcell (HH.out.get 0 rfl) 1 rfl
        have p2 : w2.cell? ⟨g0_1, 2, none⟩ = some (.int .i64 p.years) := Rd.bcell (HH.out.get 0 rfl) 2 rfl
        have p3 : w2.cell? ⟨g0_1, 3, none⟩ = some (.int .i64 p.sum) := Rd.bcell (HH.out.get 0 rfl) 3 rfl
        have p4 : w2.cell? ⟨g0_1, 4, none⟩ = some (.int .i64 p.load) := Rd.bcell (HH.out.get 0 rfl) 4 rfl
        go_wp2
        go_ret2
        exact ⟨by rw [QT.out]; rfl, HB.out⟩
    · skip
      have QS := Lib.hid (QR.out.trans (if_neg hl))
      have hlb : decide (k < durP b p - 1) = true := by simp; omega
      have hlc : (k == durP b p - 1) = false := by simp [hl]
      have hk2 : In64 (k + 1) := by unfold In64; omega
      have HC := Lib.hid (show resCode b p (k + 1) = if partD b p (k + 1) = 0 then 5 else 0 from code_at HPB.out (by omega) (by omega))
      clear hl
      have HL_bx := Lib.hid (Rd.box (HH.out.get 1 rfl))
      have HL_px := Lib.hid (Rd.box (HH.out.get 0 rfl))
      go_wp2_with (first | (refine wpList_load_agg rfl 28 _ rfl ⟨g0_0, 0, none⟩ rfl [.int .i64 b.first, .slice A n cap, .int .i64 b.rate] HL_bx.out _ Try.underlying28 rfl Bas.size ?_) | (refine wpList_load_agg rfl 35 _ rfl ⟨g0_1, 0, none⟩ rfl [.int .i64 p.kind, .int .i64 p.age, .int .i64 p.years, .int .i64 p.sum, .int .i64 p.load] HL_px.out _ Try.underlying35 rfl Policy.size ?_))
      clear HL_bx HL_px
      refine (spec_l11Code_any b A n cap p (k + 1) _ HT.out hp hk2).mono ?_
      rw [HC.out]
      rintro e w3 ⟨rfl, hb⟩
      replace HB := Lib.hid (below_all HB.out hb)
      replace HT := Lib.hid (HT.out.past hb)
      replace HH := Lib.hid (HH.out.past hb)
      clear hb
      by_cases hd : partD b p (k + 1) = 0
      · skip
        have QT := Lib.hid (QS.out.trans (if_pos hd))
        rw [if_pos hd]
        clear hd
        go_wp2
        go_ret2
        exact ⟨by rw [QT.out]; rfl, HB.out⟩
      · skip
        have QT := Lib.hid (QS.out.trans (if_neg hd))
        have HY2 := Lib.hid (year_ok (HC.out.trans (if_neg hd)))
        have hr := res_bound HY2.out
        rw [if_neg hd]
        clear hd
        obtain ⟨r0, r1⟩ := hr
        by_cases h3 : p.kind = 3
        · skip
          have hka : (p.kind == 3) = true := by simp [h3]
          have HPD := Lib.hid (show paidR p = 0 from if_pos h3)
          rw [HPD.out] at QT
          clear h3
          have p0 : w3.cell? ⟨g0_1, 0, none⟩ = some (.int .i64 p.kind) := Rd.bcell (HH.out.get 0 rfl) 0 rfl
          have p1 : w3.cell? ⟨g0_1, 1, none⟩ = some (.int .i64 p.age) := Rd.bcell (HH.out.get 0 rfl) 1 rfl
          have p2 : w3.cell? ⟨g0_1, 2, none⟩ = some (.int .i64 p.years) := Rd.bcell (HH.out.get 0 rfl) 2 rfl
          have p3 : w3.cell? ⟨g0_1, 3, none⟩ = some (.int .i64 p.sum) := Rd.bcell (HH.out.get 0 rfl) 3 rfl
          have p4 : w3.cell? ⟨g0_1, 4, none⟩ = some (.int .i64 p.load) := Rd.bcell (HH.out.get 0 rfl) 4 rfl
          go_upto_region 8 with fail
          go_upto_region 10 with fail
          clear p0 p1 p2 p3 p4
          go_upto_region 11 with fail
          have HL_bx := Lib.hid (Rd.box (HH.out.get 1 rfl))
          have HL_px := Lib.hid (Rd.box (HH.out.get 0 rfl))
          go_wp2_with (first | (refine wpList_load_agg rfl 28 _ rfl ⟨g0_0, 0, none⟩ rfl [.int .i64 b.first, .slice A n cap, .int .i64 b.rate] HL_bx.out _ Try.underlying28 rfl Bas.size ?_) | (refine wpList_load_agg rfl 35 _ rfl ⟨g0_1, 0, none⟩ rfl [.int .i64 p.kind, .int .i64 p.age, .int .i64 p.years, .int .i64 p.sum, .int .i64 p.load] HL_px.out _ Try.underlying35 rfl Policy.size ?_))
          clear HL_bx HL_px
          refine (spec_l11At_any b A n cap p (k + 1) _ HT.out HY2.out).mono ?_
          rintro e w4 ⟨rfl, hb⟩
          replace HB := Lib.hid (below_all HB.out hb)
          replace HT := Lib.hid (HT.out.past hb)
          replace HH := Lib.hid (HH.out.past hb)
          clear hb
          go_wp2
          go_ret2
          exact ⟨by rw [QT.out]; first | rfl | (rw [Int.zero_sub]; rfl), HB.out⟩
        · skip
          have hka : (p.kind == 3) = false := by simp [h3]
          have HPD := Lib.hid (show paidR p = p.sum from if_neg h3)
          rw [HPD.out] at QT
          clear h3
          by_cases h2 : p.kind = 2
          · skip
            have hkb : (p.kind == 2) = true := by simp [h2]
            clear h2
            have p0 : w3.cell? ⟨g0_1, 0, none⟩ = some (.int .i64 p.kind) := Rd.bcell (HH.out.get 0 rfl) 0 rfl
            have p1 : w3.cell? ⟨g0_1, 1, none⟩ = some (.int .i64 p.age) := Rd.bcell (HH.out.get 0 rfl) 1 rfl
            have p2 : w3.cell? ⟨g0_1, 2, none⟩ = some (.int .i64 p.years) := Rd.bcell (HH.out.get 0 rfl) 2 rfl
            have p3 : w3.cell? ⟨g0_1, 3, none⟩ = some (.int .i64 p.sum) := Rd.bcell (HH.out.get 0 rfl) 3 rfl
            have p4 : w3.cell? ⟨g0_1, 4, none⟩ = some (.int .i64 p.load) := Rd.bcell (HH.out.get 0 rfl) 4 rfl
            go_upto_region 8 with fail
            go_upto_region 10 with fail
            clear p0 p1 p2 p3 p4
            go_upto_region 11 with fail
            have HL_bx := Lib.hid (Rd.box (HH.out.get 1 rfl))
            have HL_px := Lib.hid (Rd.box (HH.out.get 0 rfl))
            go_wp2_with (first | (refine wpList_load_agg rfl 28 _ rfl ⟨g0_0, 0, none⟩ rfl [.int .i64 b.first, .slice A n cap, .int .i64 b.rate] HL_bx.out _ Try.underlying28 rfl Bas.size ?_) | (refine wpList_load_agg rfl 35 _ rfl ⟨g0_1, 0, none⟩ rfl [.int .i64 p.kind, .int .i64 p.age, .int .i64 p.years, .int .i64 p.sum, .int .i64 p.load] HL_px.out _ Try.underlying35 rfl Policy.size ?_))
            clear HL_bx HL_px
            refine (spec_l11At_any b A n cap p (k + 1) _ HT.out HY2.out).mono ?_
            rintro e w4 ⟨rfl, hb⟩
            replace HB := Lib.hid (below_all HB.out hb)
            replace HT := Lib.hid (HT.out.past hb)
            replace HH := Lib.hid (HH.out.past hb)
            clear hb
            go_wp2
            go_ret2
            exact ⟨by rw [QT.out]; first | rfl | (rw [Int.zero_sub]; rfl), HB.out⟩
          · skip
            have hkb : (p.kind == 2) = false := by simp [h2]
            clear h2
            have p0 : w3.cell? ⟨g0_1, 0, none⟩ = some (.int .i64 p.kind) := Rd.bcell (HH.out.get 0 rfl) 0 rfl
            have p1 : w3.cell? ⟨g0_1, 1, none⟩ = some (.int .i64 p.age) := Rd.bcell (HH.out.get 0 rfl) 1 rfl
            have p2 : w3.cell? ⟨g0_1, 2, none⟩ = some (.int .i64 p.years) := Rd.bcell (HH.out.get 0 rfl) 2 rfl
            have p3 : w3.cell? ⟨g0_1, 3, none⟩ = some (.int .i64 p.sum) := Rd.bcell (HH.out.get 0 rfl) 3 rfl
            have p4 : w3.cell? ⟨g0_1, 4, none⟩ = some (.int .i64 p.load) := Rd.bcell (HH.out.get 0 rfl) 4 rfl
            go_upto_region 8 with fail
            go_upto_region 10 with fail
            clear p0 p1 p2 p3 p4
            go_upto_region 11 with fail
            have HL_bx := Lib.hid (Rd.box (HH.out.get 1 rfl))
            have HL_px := Lib.hid (Rd.box (HH.out.get 0 rfl))
            go_wp2_with (first | (refine wpList_load_agg rfl 28 _ rfl ⟨g0_0, 0, none⟩ rfl [.int .i64 b.first, .slice A n cap, .int .i64 b.rate] HL_bx.out _ Try.underlying28 rfl Bas.size ?_) | (refine wpList_load_agg rfl 35 _ rfl ⟨g0_1, 0, none⟩ rfl [.int .i64 p.kind, .int .i64 p.age, .int .i64 p.years, .int .i64 p.sum, .int .i64 p.load] HL_px.out _ Try.underlying35 rfl Policy.size ?_))
            clear HL_bx HL_px
            refine (spec_l11At_any b A n cap p (k + 1) _ HT.out HY2.out).mono ?_
            rintro e w4 ⟨rfl, hb⟩
            replace HB := Lib.hid (below_all HB.out hb)
            replace HT := Lib.hid (HT.out.past hb)
            replace HH := Lib.hid (HH.out.past hb)
            clear hb
            go_wp2
            go_ret2
            exact ⟨by rw [QT.out]; first | rfl | (rw [Int.zero_sub]; rfl), HB.out⟩
  · skip
    have Q := Lib.hid (show riskP b p k = (0, resCode b p k) by unfold riskP; rw [if_neg h0])
    have hz : (resCode b p k != 0) = true := by simpa [bne] using h0
    go_enter Try.func26, Try.ntmps26
    have HL_bx := Lib.hid (Rd.box (HH.out.get 1 rfl))
    have HL_px := Lib.hid (Rd.box (HH.out.get 0 rfl))
    go_wp2_with (first | (refine wpList_load_agg rfl 28 _ rfl ⟨w.heap.size, 0, none⟩ rfl [.int .i64 b.first, .slice A n cap, .int .i64 b.rate] HL_bx.out _ Try.underlying28 rfl Bas.size ?_) | (refine wpList_load_agg rfl 35 _ rfl ⟨w.heap.size + 1, 0, none⟩ rfl [.int .i64 p.kind, .int .i64 p.age, .int .i64 p.years, .int .i64 p.sum, .int .i64 p.load] HL_px.out _ Try.underlying35 rfl Policy.size ?_))
    clear HL_bx HL_px
    generalize ((w.alloc (.cells #[.int .i64 b.first, .slice A n cap, .int .i64 b.rate] 28)).alloc (.cells #[.int .i64 p.kind, .int .i64 p.age, .int .i64 p.years, .int .i64 p.sum, .int .i64 p.load] 35)) = v0 at HB HH HT ⊢
    generalize w.heap.size + 1 = g0_1 at HH ⊢
    generalize w.heap.size = g0_0 at HH ⊢
    refine (spec_l11Code_any b A n cap p k _ HT.out hp hk).mono ?_
    rintro e w1 ⟨rfl, hb⟩
    replace HB := Lib.hid (below_all HB.out hb)
    replace HT := Lib.hid (HT.out.past hb)
    replace HH := Lib.hid (HH.out.past hb)
    clear hb
    clear h0
    generalize hc : resCode b p k = c at hz Q ⊢
    clear hc
    have hcc : (c == 0) = false := by simpa [bne] using hz
    have HL_bx := Lib.hid (Rd.box (HH.out.get 1 rfl))
    have HL_px := Lib.hid (Rd.box (HH.out.get 0 rfl))
    go_wp2_with (first | (refine wpList_load_agg rfl 28 _ rfl ⟨g0_0, 0, none⟩ rfl [.int .i64 b.first, .slice A n cap, .int .i64 b.rate] HL_bx.out _ Try.underlying28 rfl Bas.size ?_) | (refine wpList_load_agg rfl 35 _ rfl ⟨g0_1, 0, none⟩ rfl [.int .i64 p.kind, .int .i64 p.age, .int .i64 p.years, .int .i64 p.sum, .int .i64 p.load] HL_px.out _ Try.underlying35 rfl Policy.size ?_))
    clear HL_bx HL_px
    refine (spec_l10Duration_wide b A n cap p _ HT.out hp hw).mono ?_
    rintro e w2 ⟨z, rfl, _, hb⟩
    replace HB := Lib.hid (below_all HB.out hb)
    replace HT := Lib.hid (HT.out.past hb)
    replace HH := Lib.hid (HH.out.past hb)
    clear hb
    go_wp2
    go_ret2
    exact ⟨by rw [Q.out]; rfl, HB.out⟩
end Go.Proofs.Ytbjdbpdgacfcpaa
end
