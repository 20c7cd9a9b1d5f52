/- The law on scenarios: the one that changes nothing requires the reserve of the basis, and a changed table is one. No condition. -/
import Derived.Test.YtbjdbpdgacfcpaaGreatK0
import Derived.Test.YtbjdbpdgacfcpaaGreatK1
import Derived.Test.YtbjdbpdgacfcpaaGreatK17
import Derived.Test.YtbjdbpdgacfcpaaGreatK18
namespace Go.Proofs.YtbjdbpdgacfcpaaGreat
open Go.ChangeShapes Go.WideShapes Go.ChangeAt Go.RowKit Go.Deep
namespace fnScenarios
set_option maxRecDepth 100000 in
set_option maxHeartbeats 8000000 in
theorem walk (K : Code) (hlen : K.bs.length = K.n) (hbyte : ∀ x ∈ K.bs, 0 ≤ x ∧ x ≤ 255) (hmax : K.n ≤ 9223372036854775807) (w : World) (hX : Rd w w.heap.size K.A 1 (byteRows K.bs)) :
    Calls Tryz.prog 3 #[.slice K.A K.n K.c] w fun e w' => e = .returned (.bool true) ∧ Below w.heap.size w w' := by
  by_cases hbig : 4096 < K.n
  · have hd : decide (4096 < K.n) = true := by simpa using hbig
    clear hX hbyte hlen
    go_enter Tryz.func3, Tryz.ntmps3
    go_wp2_with (go_at_call 8; refine (laws_big_any K.A K.n K.c _ (by omega)).mono ?_; rw [hd]; rintro e w' ⟨rfl, rfl⟩)
    go_ret
    exact ⟨rfl, Below.refl _ _⟩
  have hd : decide (4096 < K.n) = false := by simpa using hbig
  have hK : K.Ok := ⟨hlen, by omega, hbyte⟩
  have HH := Lib.hid ((Held.nil w).snoc hX)
  have HB := Lib.hid (Below.refl w.heap.size w)
  clear hX hbyte hlen hbig
  go_enter Tryz.func3, Tryz.ntmps3
  go_wp2_with (go_at_call 8; refine (laws_big_any K.A K.n K.c _ (by omega)).mono ?_; rw [hd]; rintro e w' ⟨rfl, rfl⟩)
  refine (spec_DrawRequiredReserve_any K hK _ (HH.out.get 0 rfl)).mono ?_
  rintro e w1 ⟨b0, A0, n0, c0, H0, k0, e0, xs0, r0, d0, rfl, hP, hrd, hb⟩
  have HF0 := Lib.hid hP.pf
  have HS0 := Lib.hid (scen_fits hrd)
  have hxl0 := HF0.out.xlen
  have hkl0 := HF0.out.len
  replace HB := Lib.hid (below_all HB.out hb)
  replace HH := Lib.hid (((HH.out.past hb).cons hP.liv.rd).cons hP.res.rd)
  clear hb
  clear hP hrd
  obtain ⟨hb, hr0, hr1⟩ := box2 (w := w1) (tx := 28) (ty := 31) (X := [.int .i64 b0.first, .slice A0 n0 c0, .int .i64 b0.rate]) (Y := [.int .i64 r0, .int .i64 d0])
  replace HB := Lib.hid (below_all HB.out hb)
  replace HH := Lib.hid (((HH.out.past hb).cons hr0).cons hr1)
  clear hb hr0 hr1
  have HL_bx0 := Lib.hid (Rd.box (HH.out.get 1 rfl))
  have HL_sx0 := Lib.hid (Rd.box (HH.out.get 0 rfl))
  go_wp2_with (first | (refine wpList_load_agg rfl 28 _ rfl ⟨w1.heap.size, 0, none⟩ rfl [.int .i64 b0.first, .slice A0 n0 c0, .int .i64 b0.rate] HL_bx0.out _ Tryz.underlying28 rfl Bas.size ?_) | (refine wpList_load_agg rfl 31 _ rfl ⟨w1.heap.size + 1, 0, none⟩ rfl [.int .i64 r0, .int .i64 d0] HL_sx0.out _ Tryz.underlying31 rfl Scenario.size ?_))
  clear HL_bx0 HL_sx0
  generalize ((w1.alloc (.cells #[.int .i64 b0.first, .slice A0 n0 c0, .int .i64 b0.rate] 28)).alloc (.cells #[.int .i64 r0, .int .i64 d0] 31)) = v0 at HB HH ⊢
  generalize w1.heap.size + 1 = g0_1 at HH ⊢
  generalize w1.heap.size = g0_0 at HH ⊢
  refine (impl_RequiredReserve_any b0 A0 n0 c0 H0 k0 e0 xs0 ⟨r0, d0⟩ _ (HF0.out.bf.basT (HH.out.get 3 rfl)) hxl0 (by omega) (HH.out.get 2 rfl) HF0.out.fits HS0.out).mono ?_
  rintro e w2 ⟨rfl, hb⟩
  replace HB := Lib.hid (below_all HB.out hb)
  replace HH := Lib.hid (HH.out.past hb)
  clear hb
  have HL_bx0 := Lib.hid (Rd.box (HH.out.get 1 rfl))
  have HL_sx0 := Lib.hid (Rd.box (HH.out.get 0 rfl))
  go_wp2_with (first | (refine wpList_load_agg rfl 28 _ rfl ⟨g0_0, 0, none⟩ rfl [.int .i64 b0.first, .slice A0 n0 c0, .int .i64 b0.rate] HL_bx0.out _ Tryz.underlying28 rfl Bas.size ?_) | (refine wpList_load_agg rfl 31 _ rfl ⟨g0_1, 0, none⟩ rfl [.int .i64 r0, .int .i64 d0] HL_sx0.out _ Tryz.underlying31 rfl Scenario.size ?_))
  clear HL_bx0 HL_sx0
  refine (spec_RequiredReserve_any b0 A0 n0 c0 H0 k0 e0 xs0 ⟨r0, d0⟩ _ (HF0.out.bf.basT (HH.out.get 3 rfl)) hxl0 (by omega) (HH.out.get 2 rfl) HF0.out.fits HS0.out).mono ?_
  rintro e w3 ⟨rfl, hb⟩
  replace HB := Lib.hid (below_all HB.out hb)
  replace HH := Lib.hid (HH.out.past hb)
  clear hb
  go_wp2_with fail
  refine (spec_DrawChangeTable_any K hK _ (HH.out.get 4 rfl)).mono ?_
  rintro e w4 ⟨f1, A1, n1, c1, xs1, dt, rfl, hR, hxb1, hn1, hf1, hdt, hb⟩
  have hl1 : xs1.length = n1 := by have := hR.len; rwa [intRows_length] at this
  have hc1 : n1 ≤ c1 := res_cap hR
  have hf1b : In64 f1 := in64_lt (by omega)
  have hdtb : In64 dt := in64_lt (by omega)
  replace HB := Lib.hid (below_all HB.out hb)
  replace HH := Lib.hid ((HH.out.past hb).cons hR.rd)
  clear hb
  clear hR
  obtain ⟨hb, hr0⟩ := box1 (w := w4) (tx := 26) (X := [.int .i64 f1, .slice A1 n1 c1])
  replace HB := Lib.hid (below_all HB.out hb)
  replace HH := Lib.hid ((HH.out.past hb).cons hr0)
  clear hb hr0
  have HL_tx1 := Lib.hid (Rd.box (HH.out.get 0 rfl))
  go_wp2_with (refine wpList_load_agg rfl 26 _ rfl ⟨w4.heap.size, 0, none⟩ rfl [.int .i64 f1, .slice A1 n1 c1] HL_tx1.out _ Tryz.underlying26 rfl Tab.size ?_)
  clear HL_tx1
  generalize (w4.alloc (.cells #[.int .i64 f1, .slice A1 n1 c1] 26)) = v1 at HB HH ⊢
  generalize w4.heap.size = g1_0 at HH ⊢
  refine (impl_ChangeTable_any f1 A1 n1 c1 xs1 dt _ (liesT_of (HH.out.get 1 rfl) hl1 (by omega) hxb1) hc1 hf1b hdtb).mono ?_
  rintro e w5 ⟨A2, n2, c2, rfl, hR, hb⟩
  have hl2 : (chgTP f1 xs1 dt).2.1.length = n2 := by have := hR.len; rwa [intRows_length] at this
  have hc2 : n2 ≤ c2 := res_cap hR
  replace HB := Lib.hid (below_all HB.out hb)
  replace HH := Lib.hid ((HH.out.past hb).cons hR.rd)
  clear hb
  clear hR
  obtain ⟨hb, hr0⟩ := box1 (w := w5) (tx := 26) (X := [.int .i64 (chgTP f1 xs1 dt).1, .slice A2 n2 c2])
  replace HB := Lib.hid (below_all HB.out hb)
  replace HH := Lib.hid ((HH.out.past hb).cons hr0)
  clear hb hr0
  have HL_tx1 := Lib.hid (Rd.box (HH.out.get 2 rfl))
  go_wp2_with (refine wpList_load_agg rfl 26 _ rfl ⟨g1_0, 0, none⟩ rfl [.int .i64 f1, .slice A1 n1 c1] HL_tx1.out _ Tryz.underlying26 rfl Tab.size ?_)
  clear HL_tx1
  generalize (w5.alloc (.cells #[.int .i64 (chgTP f1 xs1 dt).1, .slice A2 n2 c2] 26)) = v2 at HB HH ⊢
  generalize w5.heap.size = g2_0 at HH ⊢
  refine (spec_ChangeTable_any f1 A1 n1 c1 xs1 dt _ (liesT_of (HH.out.get 3 rfl) hl1 (by omega) hxb1) hc1 hf1b hdtb).mono ?_
  rintro e w6 ⟨A3, n3, c3, rfl, hR, hb⟩
  have hl3 : (chgTP f1 xs1 dt).2.1.length = n3 := by have := hR.len; rwa [intRows_length] at this
  have hc3 : n3 ≤ c3 := res_cap hR
  obtain rfl : n2 = n3 := by rw [← hl2, ← hl3]
  replace HB := Lib.hid (below_all HB.out hb)
  replace HH := Lib.hid ((HH.out.past hb).cons hR.rd)
  clear hb
  clear hR
  obtain ⟨hb, hr0⟩ := box1 (w := w6) (tx := 26) (X := [.int .i64 (chgTP f1 xs1 dt).1, .slice A3 n2 c3])
  replace HB := Lib.hid (below_all HB.out hb)
  replace HH := Lib.hid ((HH.out.past hb).cons hr0)
  clear hb hr0
  go_wp2_with fail
  generalize (w6.alloc (.cells #[.int .i64 (chgTP f1 xs1 dt).1, .slice A3 n2 c3] 26)) = v3 at HB HH ⊢
  generalize w6.heap.size = g3_0 at HH ⊢
  refine (spec_DrawChangeBasis_any K hK _ (HH.out.get 10 rfl)).mono ?_
  rintro e w7 ⟨b4, A4, n4, c4, r4, d4, rfl, hR, hs4, hrd4, hb⟩
  have HF4 := Lib.hid (BF.of hR hs4)
  have HS4 := Lib.hid (scen_fits hrd4)
  replace HB := Lib.hid (below_all HB.out hb)
  replace HH := Lib.hid ((HH.out.past hb).cons hR.rd)
  clear hb
  clear hR
  clear hs4 hrd4
  obtain ⟨hb, hr0, hr1⟩ := box2 (w := w7) (tx := 28) (ty := 31) (X := [.int .i64 b4.first, .slice A4 n4 c4, .int .i64 b4.rate]) (Y := [.int .i64 r4, .int .i64 d4])
  replace HB := Lib.hid (below_all HB.out hb)
  replace HH := Lib.hid (((HH.out.past hb).cons hr0).cons hr1)
  clear hb hr0 hr1
  have HL_bx4 := Lib.hid (Rd.box (HH.out.get 1 rfl))
  have HL_sx4 := Lib.hid (Rd.box (HH.out.get 0 rfl))
  go_wp2_with (first | (refine wpList_load_agg rfl 28 _ rfl ⟨w7.heap.size, 0, none⟩ rfl [.int .i64 b4.first, .slice A4 n4 c4, .int .i64 b4.rate] HL_bx4.out _ Tryz.underlying28 rfl Bas.size ?_) | (refine wpList_load_agg rfl 31 _ rfl ⟨w7.heap.size + 1, 0, none⟩ rfl [.int .i64 r4, .int .i64 d4] HL_sx4.out _ Tryz.underlying31 rfl Scenario.size ?_))
  clear HL_bx4 HL_sx4
  generalize ((w7.alloc (.cells #[.int .i64 b4.first, .slice A4 n4 c4, .int .i64 b4.rate] 28)).alloc (.cells #[.int .i64 r4, .int .i64 d4] 31)) = v4 at HB HH ⊢
  generalize w7.heap.size + 1 = g4_1 at HH ⊢
  generalize w7.heap.size = g4_0 at HH ⊢
  refine (impl_ChangeBasis_any b4 A4 n4 c4 ⟨r4, d4⟩ _ (HF4.out.basT (HH.out.get 2 rfl)) HS4.out).mono ?_
  rintro e w8 ⟨A5, n5, c5, rfl, hR, hb⟩
  have hl5 : (chgBP b4 ⟨r4, d4⟩).1.lives.length = n5 := by have := hR.len; rwa [intRows_length] at this
  have hc5 : n5 ≤ c5 := res_cap hR
  replace HB := Lib.hid (below_all HB.out hb)
  replace HH := Lib.hid ((HH.out.past hb).cons hR.rd)
  clear hb
  clear hR
  obtain ⟨hb, hr0⟩ := box1 (w := w8) (tx := 28) (X := [.int .i64 (chgBP b4 ⟨r4, d4⟩).1.first, .slice A5 n5 c5, .int .i64 (chgBP b4 ⟨r4, d4⟩).1.rate])
  replace HB := Lib.hid (below_all HB.out hb)
  replace HH := Lib.hid ((HH.out.past hb).cons hr0)
  clear hb hr0
  have HL_bx4 := Lib.hid (Rd.box (HH.out.get 3 rfl))
  have HL_sx4 := Lib.hid (Rd.box (HH.out.get 2 rfl))
  go_wp2_with (first | (refine wpList_load_agg rfl 28 _ rfl ⟨g4_0, 0, none⟩ rfl [.int .i64 b4.first, .slice A4 n4 c4, .int .i64 b4.rate] HL_bx4.out _ Tryz.underlying28 rfl Bas.size ?_) | (refine wpList_load_agg rfl 31 _ rfl ⟨g4_1, 0, none⟩ rfl [.int .i64 r4, .int .i64 d4] HL_sx4.out _ Tryz.underlying31 rfl Scenario.size ?_))
  clear HL_bx4 HL_sx4
  generalize (w8.alloc (.cells #[.int .i64 (chgBP b4 ⟨r4, d4⟩).1.first, .slice A5 n5 c5, .int .i64 (chgBP b4 ⟨r4, d4⟩).1.rate] 28)) = v5 at HB HH ⊢
  generalize w8.heap.size = g5_0 at HH ⊢
  refine (spec_ChangeBasis_any b4 A4 n4 c4 ⟨r4, d4⟩ _ (HF4.out.basT (HH.out.get 4 rfl)) HS4.out).mono ?_
  rintro e w9 ⟨A6, n6, c6, rfl, hR, hb⟩
  have hl6 : (chgBP b4 ⟨r4, d4⟩).1.lives.length = n6 := by have := hR.len; rwa [intRows_length] at this
  have hc6 : n6 ≤ c6 := res_cap hR
  obtain rfl : n5 = n6 := by rw [← hl5, ← hl6]
  replace HB := Lib.hid (below_all HB.out hb)
  replace HH := Lib.hid ((HH.out.past hb).cons hR.rd)
  clear hb
  clear hR
  obtain ⟨hb, hr0⟩ := box1 (w := w9) (tx := 28) (X := [.int .i64 (chgBP b4 ⟨r4, d4⟩).1.first, .slice A6 n5 c6, .int .i64 (chgBP b4 ⟨r4, d4⟩).1.rate])
  replace HB := Lib.hid (below_all HB.out hb)
  replace HH := Lib.hid ((HH.out.past hb).cons hr0)
  clear hb hr0
  have hs2 : n2 ≤ 1048576 := by rw [← hl2]; exact chgT_len
  have hs5 : n5 ≤ 1048576 := by rw [← hl5]; exact chgB_len
  have p0 : (w9.alloc (.cells #[.int .i64 (chgBP b4 ⟨r4, d4⟩).1.first, .slice A6 n5 c6, .int .i64 (chgBP b4 ⟨r4, d4⟩).1.rate] 28)).cell? ⟨g2_0, 0, none⟩ = some (.int .i64 (chgTP f1 xs1 dt).1) := Rd.bcell (HH.out.get 9 rfl) 0 rfl
  have p1 : (w9.alloc (.cells #[.int .i64 (chgBP b4 ⟨r4, d4⟩).1.first, .slice A6 n5 c6, .int .i64 (chgBP b4 ⟨r4, d4⟩).1.rate] 28)).cell? ⟨g2_0, 1, none⟩ = some (.slice A2 n2 c2) := Rd.bcell (HH.out.get 9 rfl) 1 rfl
  have q0 : (w9.alloc (.cells #[.int .i64 (chgBP b4 ⟨r4, d4⟩).1.first, .slice A6 n5 c6, .int .i64 (chgBP b4 ⟨r4, d4⟩).1.rate] 28)).cell? ⟨g3_0, 0, none⟩ = some (.int .i64 (chgTP f1 xs1 dt).1) := Rd.bcell (HH.out.get 7 rfl) 0 rfl
  have q1 : (w9.alloc (.cells #[.int .i64 (chgBP b4 ⟨r4, d4⟩).1.first, .slice A6 n5 c6, .int .i64 (chgBP b4 ⟨r4, d4⟩).1.rate] 28)).cell? ⟨g3_0, 1, none⟩ = some (.slice A3 n2 c3) := Rd.bcell (HH.out.get 7 rfl) 1 rfl
  go_wp2_with fail
  generalize (w9.alloc (.cells #[.int .i64 (chgBP b4 ⟨r4, d4⟩).1.first, .slice A6 n5 c6, .int .i64 (chgBP b4 ⟨r4, d4⟩).1.rate] 28)) = v6 at HB HH ⊢
  generalize w9.heap.size = g6_0 at HH ⊢
  refine (likeTables9_any (chgTP f1 xs1 dt).1 A2 n2 c2 A3 c3 (chgTP f1 xs1 dt).2.1 _ hl2 hs2 (HH.out.get 10 rfl) (HH.out.get 8 rfl)).mono ?_
  rintro e w10 ⟨rfl, hb⟩
  replace HB := Lib.hid (below_all HB.out hb)
  replace HH := Lib.hid (HH.out.past hb)
  clear hb
  clear p0 p1 q0 q1
  have p0 : w10.cell? ⟨g5_0, 0, none⟩ = some (.int .i64 (chgBP b4 ⟨r4, d4⟩).1.first) := Rd.bcell (HH.out.get 2 rfl) 0 rfl
  have p1 : w10.cell? ⟨g5_0, 1, none⟩ = some (.slice A5 n5 c5) := Rd.bcell (HH.out.get 2 rfl) 1 rfl
  have p2 : w10.cell? ⟨g5_0, 2, none⟩ = some (.int .i64 (chgBP b4 ⟨r4, d4⟩).1.rate) := Rd.bcell (HH.out.get 2 rfl) 2 rfl
  have q0 : w10.cell? ⟨g6_0, 0, none⟩ = some (.int .i64 (chgBP b4 ⟨r4, d4⟩).1.first) := Rd.bcell (HH.out.get 0 rfl) 0 rfl
  have q1 : w10.cell? ⟨g6_0, 1, none⟩ = some (.slice A6 n5 c6) := Rd.bcell (HH.out.get 0 rfl) 1 rfl
  have q2 : w10.cell? ⟨g6_0, 2, none⟩ = some (.int .i64 (chgBP b4 ⟨r4, d4⟩).1.rate) := Rd.bcell (HH.out.get 0 rfl) 2 rfl
  go_wp2_with fail
  refine (likeTables9_any (chgBP b4 ⟨r4, d4⟩).1.first A5 n5 c5 A6 c6 (chgBP b4 ⟨r4, d4⟩).1.lives _ hl5 hs5 (HH.out.get 3 rfl) (HH.out.get 1 rfl)).mono ?_
  rintro e w11 ⟨rfl, hb⟩
  replace HB := Lib.hid (below_all HB.out hb)
  replace HH := Lib.hid (HH.out.past hb)
  clear hb
  clear p0 p1 p2 q0 q1 q2
  clear hd hmax hK
  cases hct : ((chgTP f1 xs1 dt).2.2 == 0)
  · skip
    cases hcb : ((chgBP b4 ⟨r4, d4⟩).2 == 0)
    · skip
      cases hp : portB b0 xs0
      · skip
        have HL_bx0 := Lib.hid (Rd.box (HH.out.get 14 rfl))
        go_wp2_with (refine wpList_load_agg rfl 28 _ rfl ⟨g0_0, 0, none⟩ rfl [.int .i64 b0.first, .slice A0 n0 c0, .int .i64 b0.rate] HL_bx0.out _ Tryz.underlying28 rfl Bas.size ?_)
        clear HL_bx0
        refine (impl_IsPortfolio_any b0 A0 n0 c0 H0 k0 e0 xs0 _ (HF0.out.bf.basT (HH.out.get 16 rfl)) hxl0 (by omega) (HH.out.get 15 rfl) HF0.out.fits).mono ?_
        rw [hp]
        rintro e w12 ⟨rfl, hb⟩
        replace HB := Lib.hid (below_all HB.out hb)
        replace HH := Lib.hid (HH.out.past hb)
        clear hb
        go_wp2_with fail
        go_ret
        exact ⟨rfl, HB.out⟩
      · skip
        have HRN := Lib.hid (req_none hp)
        have HTN := Lib.hid (show totP b0 xs0 = ((resL b0 xs0).sum, 0) by unfold totP; rw [if_pos hp])
        have HL_bx0 := Lib.hid (Rd.box (HH.out.get 14 rfl))
        go_wp2_with (refine wpList_load_agg rfl 28 _ rfl ⟨g0_0, 0, none⟩ rfl [.int .i64 b0.first, .slice A0 n0 c0, .int .i64 b0.rate] HL_bx0.out _ Tryz.underlying28 rfl Bas.size ?_)
        clear HL_bx0
        refine (impl_IsPortfolio_any b0 A0 n0 c0 H0 k0 e0 xs0 _ (HF0.out.bf.basT (HH.out.get 16 rfl)) hxl0 (by omega) (HH.out.get 15 rfl) HF0.out.fits).mono ?_
        rw [hp]
        rintro e w12 ⟨rfl, hb⟩
        replace HB := Lib.hid (below_all HB.out hb)
        replace HH := Lib.hid (HH.out.past hb)
        clear hb
        have HL_bx0 := Lib.hid (Rd.box (HH.out.get 14 rfl))
        go_wp2_with (refine wpList_load_agg rfl 28 _ rfl ⟨g0_0, 0, none⟩ rfl [.int .i64 b0.first, .slice A0 n0 c0, .int .i64 b0.rate] HL_bx0.out _ Tryz.underlying28 rfl Bas.size ?_)
        clear HL_bx0
        refine (impl_RequiredReserve_any b0 A0 n0 c0 H0 k0 e0 xs0 ⟨0, 0⟩ _ (HF0.out.bf.basT (HH.out.get 16 rfl)) hxl0 (by omega) (HH.out.get 15 rfl) HF0.out.fits (scen_fits (by omega))).mono ?_
        rw [HRN.out]
        rintro e w13 ⟨rfl, hb⟩
        replace HB := Lib.hid (below_all HB.out hb)
        replace HH := Lib.hid (HH.out.past hb)
        clear hb
        have HL_bx0 := Lib.hid (Rd.box (HH.out.get 14 rfl))
        go_wp2_with (refine wpList_load_agg rfl 28 _ rfl ⟨g0_0, 0, none⟩ rfl [.int .i64 b0.first, .slice A0 n0 c0, .int .i64 b0.rate] HL_bx0.out _ Tryz.underlying28 rfl Bas.size ?_)
        clear HL_bx0
        refine (impl_TotalReserve_any b0 A0 n0 c0 H0 k0 e0 xs0 _ (HF0.out.bf.basT (HH.out.get 16 rfl)) hxl0 (by omega) (HH.out.get 15 rfl) HF0.out.fits).mono ?_
        rw [HTN.out]
        rintro e w14 ⟨rfl, hb⟩
        replace HB := Lib.hid (below_all HB.out hb)
        replace HH := Lib.hid (HH.out.past hb)
        clear hb
        go_wp2_with fail
        go_ret
        exact ⟨rfl, HB.out⟩
    · skip
      have hgb := chgB_good (show (chgBP b4 ⟨r4, d4⟩).2 = 0 by simpa using hcb)
      have HGB := Lib.hid hgb; clear hgb
      have p0 : w11.cell? ⟨g5_0, 0, none⟩ = some (.int .i64 (chgBP b4 ⟨r4, d4⟩).1.first) := Rd.bcell (HH.out.get 2 rfl) 0 rfl
      have p1 : w11.cell? ⟨g5_0, 1, none⟩ = some (.slice A5 n5 c5) := Rd.bcell (HH.out.get 2 rfl) 1 rfl
      have p2 : w11.cell? ⟨g5_0, 2, none⟩ = some (.int .i64 (chgBP b4 ⟨r4, d4⟩).1.rate) := Rd.bcell (HH.out.get 2 rfl) 2 rfl
      go_wp2_with fail
      refine (impl_IsBasis_any (chgBP b4 ⟨r4, d4⟩).1 A5 n5 c5 _ (basT_good HGB.out (HH.out.get 3 rfl) hl5 hc5)).mono ?_
      rw [HGB.out]
      rintro e w12 ⟨rfl, hb⟩
      replace HB := Lib.hid (below_all HB.out hb)
      replace HH := Lib.hid (HH.out.past hb)
      clear hb
      clear p0 p1 p2
      cases hp : portB b0 xs0
      · skip
        have HL_bx0 := Lib.hid (Rd.box (HH.out.get 14 rfl))
        go_wp2_with (refine wpList_load_agg rfl 28 _ rfl ⟨g0_0, 0, none⟩ rfl [.int .i64 b0.first, .slice A0 n0 c0, .int .i64 b0.rate] HL_bx0.out _ Tryz.underlying28 rfl Bas.size ?_)
        clear HL_bx0
        refine (impl_IsPortfolio_any b0 A0 n0 c0 H0 k0 e0 xs0 _ (HF0.out.bf.basT (HH.out.get 16 rfl)) hxl0 (by omega) (HH.out.get 15 rfl) HF0.out.fits).mono ?_
        rw [hp]
        rintro e w13 ⟨rfl, hb⟩
        replace HB := Lib.hid (below_all HB.out hb)
        replace HH := Lib.hid (HH.out.past hb)
        clear hb
        go_wp2_with fail
        go_ret
        exact ⟨rfl, HB.out⟩
      · skip
        have HRN := Lib.hid (req_none hp)
        have HTN := Lib.hid (show totP b0 xs0 = ((resL b0 xs0).sum, 0) by unfold totP; rw [if_pos hp])
        have HL_bx0 := Lib.hid (Rd.box (HH.out.get 14 rfl))
        go_wp2_with (refine wpList_load_agg rfl 28 _ rfl ⟨g0_0, 0, none⟩ rfl [.int .i64 b0.first, .slice A0 n0 c0, .int .i64 b0.rate] HL_bx0.out _ Tryz.underlying28 rfl Bas.size ?_)
        clear HL_bx0
        refine (impl_IsPortfolio_any b0 A0 n0 c0 H0 k0 e0 xs0 _ (HF0.out.bf.basT (HH.out.get 16 rfl)) hxl0 (by omega) (HH.out.get 15 rfl) HF0.out.fits).mono ?_
        rw [hp]
        rintro e w13 ⟨rfl, hb⟩
        replace HB := Lib.hid (below_all HB.out hb)
        replace HH := Lib.hid (HH.out.past hb)
        clear hb
        have HL_bx0 := Lib.hid (Rd.box (HH.out.get 14 rfl))
        go_wp2_with (refine wpList_load_agg rfl 28 _ rfl ⟨g0_0, 0, none⟩ rfl [.int .i64 b0.first, .slice A0 n0 c0, .int .i64 b0.rate] HL_bx0.out _ Tryz.underlying28 rfl Bas.size ?_)
        clear HL_bx0
        refine (impl_RequiredReserve_any b0 A0 n0 c0 H0 k0 e0 xs0 ⟨0, 0⟩ _ (HF0.out.bf.basT (HH.out.get 16 rfl)) hxl0 (by omega) (HH.out.get 15 rfl) HF0.out.fits (scen_fits (by omega))).mono ?_
        rw [HRN.out]
        rintro e w14 ⟨rfl, hb⟩
        replace HB := Lib.hid (below_all HB.out hb)
        replace HH := Lib.hid (HH.out.past hb)
        clear hb
        have HL_bx0 := Lib.hid (Rd.box (HH.out.get 14 rfl))
        go_wp2_with (refine wpList_load_agg rfl 28 _ rfl ⟨g0_0, 0, none⟩ rfl [.int .i64 b0.first, .slice A0 n0 c0, .int .i64 b0.rate] HL_bx0.out _ Tryz.underlying28 rfl Bas.size ?_)
        clear HL_bx0
        refine (impl_TotalReserve_any b0 A0 n0 c0 H0 k0 e0 xs0 _ (HF0.out.bf.basT (HH.out.get 16 rfl)) hxl0 (by omega) (HH.out.get 15 rfl) HF0.out.fits).mono ?_
        rw [HTN.out]
        rintro e w15 ⟨rfl, hb⟩
        replace HB := Lib.hid (below_all HB.out hb)
        replace HH := Lib.hid (HH.out.past hb)
        clear hb
        go_wp2_with fail
        go_ret
        exact ⟨rfl, HB.out⟩
  · skip
    obtain ⟨h1, h2, h3⟩ := chgT_good (show (chgTP f1 xs1 dt).2.2 = 0 by simpa using hct)
    have HG1 := Lib.hid h1; have HG3 := Lib.hid h3; clear h1 h2 h3
    have HL_tx1 := Lib.hid (Rd.box (HH.out.get 11 rfl))
    go_wp2_with (refine wpList_load_agg rfl 26 _ rfl ⟨g1_0, 0, none⟩ rfl [.int .i64 f1, .slice A1 n1 c1] HL_tx1.out _ Tryz.underlying26 rfl Tab.size ?_)
    clear HL_tx1
    refine (impl_ChangeTable_any f1 A1 n1 c1 xs1 0 _ (liesT_of (HH.out.get 12 rfl) hl1 (by omega) hxb1) hc1 hf1b (in64_lt (by omega))).mono ?_
    rw [HG1.out]
    rintro e w12 ⟨A9, n9, c9, rfl, hR, hb⟩
    have hl9 : xs1.length = n9 := by have := hR.len; rwa [intRows_length] at this
    have hc9 : n9 ≤ c9 := res_cap hR
    obtain rfl : n1 = n9 := by rw [← hl1, ← hl9]
    replace HB := Lib.hid (below_all HB.out hb)
    replace HH := Lib.hid ((HH.out.past hb).cons hR.rd)
    clear hb
    clear hR
    obtain ⟨hb, hr0⟩ := box1 (w := w12) (tx := 26) (X := [.int .i64 f1, .slice A9 n1 c9])
    replace HB := Lib.hid (below_all HB.out hb)
    replace HH := Lib.hid ((HH.out.past hb).cons hr0)
    clear hb hr0
    have p0 : (w12.alloc (.cells #[.int .i64 f1, .slice A9 n1 c9] 26)).cell? ⟨w12.heap.size, 0, none⟩ = some (.int .i64 f1) := Rd.bcell (HH.out.get 0 rfl) 0 rfl
    have p1 : (w12.alloc (.cells #[.int .i64 f1, .slice A9 n1 c9] 26)).cell? ⟨w12.heap.size, 1, none⟩ = some (.slice A9 n1 c9) := Rd.bcell (HH.out.get 0 rfl) 1 rfl
    have q0 : (w12.alloc (.cells #[.int .i64 f1, .slice A9 n1 c9] 26)).cell? ⟨g1_0, 0, none⟩ = some (.int .i64 f1) := Rd.bcell (HH.out.get 13 rfl) 0 rfl
    have q1 : (w12.alloc (.cells #[.int .i64 f1, .slice A9 n1 c9] 26)).cell? ⟨g1_0, 1, none⟩ = some (.slice A1 n1 c1) := Rd.bcell (HH.out.get 13 rfl) 1 rfl
    go_wp2_with fail
    generalize (w12.alloc (.cells #[.int .i64 f1, .slice A9 n1 c9] 26)) = v7 at HB HH ⊢
    generalize w12.heap.size = g7_0 at HH ⊢
    refine (likeTables9_any f1 A9 n1 c9 A1 c1 xs1 _ hl1 (by omega) (HH.out.get 1 rfl) (HH.out.get 14 rfl)).mono ?_
    rintro e w13 ⟨rfl, hb⟩
    replace HB := Lib.hid (below_all HB.out hb)
    replace HH := Lib.hid (HH.out.past hb)
    clear hb
    clear p0 p1 q0 q1
    have p0 : w13.cell? ⟨g2_0, 0, none⟩ = some (.int .i64 (chgTP f1 xs1 dt).1) := Rd.bcell (HH.out.get 11 rfl) 0 rfl
    have p1 : w13.cell? ⟨g2_0, 1, none⟩ = some (.slice A2 n2 c2) := Rd.bcell (HH.out.get 11 rfl) 1 rfl
    go_wp2_with fail
    refine (impl_IsLifeTable_any (chgTP f1 xs1 dt).1 A2 n2 c2 (chgTP f1 xs1 dt).2.1 _ (tabT_good HG3.out (HH.out.get 12 rfl) hl2) hc2 (tab_first HG3.out)).mono ?_
    rw [HG3.out]
    rintro e w14 ⟨rfl, hb⟩
    replace HB := Lib.hid (below_all HB.out hb)
    replace HH := Lib.hid (HH.out.past hb)
    clear hb
    clear p0 p1
    cases hcb : ((chgBP b4 ⟨r4, d4⟩).2 == 0)
    · skip
      cases hp : portB b0 xs0
      · skip
        have HL_bx0 := Lib.hid (Rd.box (HH.out.get 16 rfl))
        go_wp2_with (refine wpList_load_agg rfl 28 _ rfl ⟨g0_0, 0, none⟩ rfl [.int .i64 b0.first, .slice A0 n0 c0, .int .i64 b0.rate] HL_bx0.out _ Tryz.underlying28 rfl Bas.size ?_)
        clear HL_bx0
        refine (impl_IsPortfolio_any b0 A0 n0 c0 H0 k0 e0 xs0 _ (HF0.out.bf.basT (HH.out.get 18 rfl)) hxl0 (by omega) (HH.out.get 17 rfl) HF0.out.fits).mono ?_
        rw [hp]
        rintro e w15 ⟨rfl, hb⟩
        replace HB := Lib.hid (below_all HB.out hb)
        replace HH := Lib.hid (HH.out.past hb)
        clear hb
        go_wp2_with fail
        go_ret
        exact ⟨rfl, HB.out⟩
      · skip
        have HRN := Lib.hid (req_none hp)
        have HTN := Lib.hid (show totP b0 xs0 = ((resL b0 xs0).sum, 0) by unfold totP; rw [if_pos hp])
        have HL_bx0 := Lib.hid (Rd.box (HH.out.get 16 rfl))
        go_wp2_with (refine wpList_load_agg rfl 28 _ rfl ⟨g0_0, 0, none⟩ rfl [.int .i64 b0.first, .slice A0 n0 c0, .int .i64 b0.rate] HL_bx0.out _ Tryz.underlying28 rfl Bas.size ?_)
        clear HL_bx0
        refine (impl_IsPortfolio_any b0 A0 n0 c0 H0 k0 e0 xs0 _ (HF0.out.bf.basT (HH.out.get 18 rfl)) hxl0 (by omega) (HH.out.get 17 rfl) HF0.out.fits).mono ?_
        rw [hp]
        rintro e w15 ⟨rfl, hb⟩
        replace HB := Lib.hid (below_all HB.out hb)
        replace HH := Lib.hid (HH.out.past hb)
        clear hb
        have HL_bx0 := Lib.hid (Rd.box (HH.out.get 16 rfl))
        go_wp2_with (refine wpList_load_agg rfl 28 _ rfl ⟨g0_0, 0, none⟩ rfl [.int .i64 b0.first, .slice A0 n0 c0, .int .i64 b0.rate] HL_bx0.out _ Tryz.underlying28 rfl Bas.size ?_)
        clear HL_bx0
        refine (impl_RequiredReserve_any b0 A0 n0 c0 H0 k0 e0 xs0 ⟨0, 0⟩ _ (HF0.out.bf.basT (HH.out.get 18 rfl)) hxl0 (by omega) (HH.out.get 17 rfl) HF0.out.fits (scen_fits (by omega))).mono ?_
        rw [HRN.out]
        rintro e w16 ⟨rfl, hb⟩
        replace HB := Lib.hid (below_all HB.out hb)
        replace HH := Lib.hid (HH.out.past hb)
        clear hb
        have HL_bx0 := Lib.hid (Rd.box (HH.out.get 16 rfl))
        go_wp2_with (refine wpList_load_agg rfl 28 _ rfl ⟨g0_0, 0, none⟩ rfl [.int .i64 b0.first, .slice A0 n0 c0, .int .i64 b0.rate] HL_bx0.out _ Tryz.underlying28 rfl Bas.size ?_)
        clear HL_bx0
        refine (impl_TotalReserve_any b0 A0 n0 c0 H0 k0 e0 xs0 _ (HF0.out.bf.basT (HH.out.get 18 rfl)) hxl0 (by omega) (HH.out.get 17 rfl) HF0.out.fits).mono ?_
        rw [HTN.out]
        rintro e w17 ⟨rfl, hb⟩
        replace HB := Lib.hid (below_all HB.out hb)
        replace HH := Lib.hid (HH.out.past hb)
        clear hb
        go_wp2_with fail
        go_ret
        exact ⟨rfl, HB.out⟩
    · skip
      have hgb := chgB_good (show (chgBP b4 ⟨r4, d4⟩).2 = 0 by simpa using hcb)
      have HGB := Lib.hid hgb; clear hgb
      have p0 : w14.cell? ⟨g5_0, 0, none⟩ = some (.int .i64 (chgBP b4 ⟨r4, d4⟩).1.first) := Rd.bcell (HH.out.get 4 rfl) 0 rfl
      have p1 : w14.cell? ⟨g5_0, 1, none⟩ = some (.slice A5 n5 c5) := Rd.bcell (HH.out.get 4 rfl) 1 rfl
      have p2 : w14.cell? ⟨g5_0, 2, none⟩ = some (.int .i64 (chgBP b4 ⟨r4, d4⟩).1.rate) := Rd.bcell (HH.out.get 4 rfl) 2 rfl
      go_wp2_with fail
      refine (impl_IsBasis_any (chgBP b4 ⟨r4, d4⟩).1 A5 n5 c5 _ (basT_good HGB.out (HH.out.get 5 rfl) hl5 hc5)).mono ?_
      rw [HGB.out]
      rintro e w15 ⟨rfl, hb⟩
      replace HB := Lib.hid (below_all HB.out hb)
      replace HH := Lib.hid (HH.out.past hb)
      clear hb
      clear p0 p1 p2
      cases hp : portB b0 xs0
      · skip
        have HL_bx0 := Lib.hid (Rd.box (HH.out.get 16 rfl))
        go_wp2_with (refine wpList_load_agg rfl 28 _ rfl ⟨g0_0, 0, none⟩ rfl [.int .i64 b0.first, .slice A0 n0 c0, .int .i64 b0.rate] HL_bx0.out _ Tryz.underlying28 rfl Bas.size ?_)
        clear HL_bx0
        refine (impl_IsPortfolio_any b0 A0 n0 c0 H0 k0 e0 xs0 _ (HF0.out.bf.basT (HH.out.get 18 rfl)) hxl0 (by omega) (HH.out.get 17 rfl) HF0.out.fits).mono ?_
        rw [hp]
        rintro e w16 ⟨rfl, hb⟩
        replace HB := Lib.hid (below_all HB.out hb)
        replace HH := Lib.hid (HH.out.past hb)
        clear hb
        go_wp2_with fail
        go_ret
        exact ⟨rfl, HB.out⟩
      · skip
        have HRN := Lib.hid (req_none hp)
        have HTN := Lib.hid (show totP b0 xs0 = ((resL b0 xs0).sum, 0) by unfold totP; rw [if_pos hp])
        have HL_bx0 := Lib.hid (Rd.box (HH.out.get 16 rfl))
        go_wp2_with (refine wpList_load_agg rfl 28 _ rfl ⟨g0_0, 0, none⟩ rfl [.int .i64 b0.first, .slice A0 n0 c0, .int .i64 b0.rate] HL_bx0.out _ Tryz.underlying28 rfl Bas.size ?_)
        clear HL_bx0
        refine (impl_IsPortfolio_any b0 A0 n0 c0 H0 k0 e0 xs0 _ (HF0.out.bf.basT (HH.out.get 18 rfl)) hxl0 (by omega) (HH.out.get 17 rfl) HF0.out.fits).mono ?_
        rw [hp]
        rintro e w16 ⟨rfl, hb⟩
        replace HB := Lib.hid (below_all HB.out hb)
        replace HH := Lib.hid (HH.out.past hb)
        clear hb
        have HL_bx0 := Lib.hid (Rd.box (HH.out.get 16 rfl))
        go_wp2_with (refine wpList_load_agg rfl 28 _ rfl ⟨g0_0, 0, none⟩ rfl [.int .i64 b0.first, .slice A0 n0 c0, .int .i64 b0.rate] HL_bx0.out _ Tryz.underlying28 rfl Bas.size ?_)
        clear HL_bx0
        refine (impl_RequiredReserve_any b0 A0 n0 c0 H0 k0 e0 xs0 ⟨0, 0⟩ _ (HF0.out.bf.basT (HH.out.get 18 rfl)) hxl0 (by omega) (HH.out.get 17 rfl) HF0.out.fits (scen_fits (by omega))).mono ?_
        rw [HRN.out]
        rintro e w17 ⟨rfl, hb⟩
        replace HB := Lib.hid (below_all HB.out hb)
        replace HH := Lib.hid (HH.out.past hb)
        clear hb
        have HL_bx0 := Lib.hid (Rd.box (HH.out.get 16 rfl))
        go_wp2_with (refine wpList_load_agg rfl 28 _ rfl ⟨g0_0, 0, none⟩ rfl [.int .i64 b0.first, .slice A0 n0 c0, .int .i64 b0.rate] HL_bx0.out _ Tryz.underlying28 rfl Bas.size ?_)
        clear HL_bx0
        refine (impl_TotalReserve_any b0 A0 n0 c0 H0 k0 e0 xs0 _ (HF0.out.bf.basT (HH.out.get 18 rfl)) hxl0 (by omega) (HH.out.get 17 rfl) HF0.out.fits).mono ?_
        rw [HTN.out]
        rintro e w18 ⟨rfl, hb⟩
        replace HB := Lib.hid (below_all HB.out hb)
        replace HH := Lib.hid (HH.out.past hb)
        clear hb
        go_wp2_with fail
        go_ret
        exact ⟨rfl, HB.out⟩
set_option maxRecDepth 100000 in
theorem lifted (os : Os) (started : os.Started) (H : Type) (enc : TypeId × Value → H) :
    ReturnsInHanded {} Tryz.checked os 3 .any (Rows.fnScenariosSpec.pre6 enc Tryz.prog Tryz.f3 Rows.fnScenariosRow.domain false) (Rows.fnScenariosSpec.post enc Tryz.prog Tryz.f3 false true false false) := by
  refine law_lifted os started H enc 4 (by kernel_rfl) Tryz.func3
    (ChangeSpec.witness6 (enc := enc) (C := Tryz.checked) false ⟨#[], #[.slice none 0 0], []⟩ 8 (by kernel_rfl) (by kernel_rfl) (by kernel_rfl) (by kernel_rfl)) rfl rfl Tryz.underlying4
    (by rw [Tryz.params3]; simp only [List.forall_mem_cons]; exact ⟨⟨by kernel_rfl, of_decide_eq_true (by kernel_rfl)⟩, by simp⟩) (fun ds hl => by
      match ds, hl with
      | [d0], _ => rfl) ?_
  intro W base args ds p hval hA
  rw [Tryz.params3] at hA hval
  obtain ⟨v0, vs0, d0, ds0, p0, q0, hargs, rfl, rfl, h0, rr0⟩ := trodAll_cons hA
  obtain ⟨rfl, rfl, rfl⟩ := trodAll_nil rr0
  obtain rfl : args = #[v0] := by cases args; simp_all
  obtain ⟨A0, n0, c0, rfl⟩ := okWide_slice Tryz.underlying22 (hval 0 22 v0 rfl rfl)
  obtain ⟨fu0, ho0⟩ := h0
  obtain ⟨bs, hbl, hby, hRd, hnm⟩ := open_code Tryz.underlying22 Tryz.underlying5 (by kernel_rfl) ho0
  exact walk ⟨A0, n0, c0, bs⟩ hbl hby hnm W hRd
theorem proved : Rows.FnScenariosSaid :=
  OpenClaim.holds_of_wide 3 Tryz.f3 rfl rfl rfl rfl rfl rfl rfl ⟨rfl, rfl, rfl, rfl, rfl⟩ rfl rfl rfl rfl rfl (by kernel_rfl) Tryz.func3 (by kernel_rfl)
    (of_decide_eq_true (by kernel_rfl)) (by unfold Func.isWrapper; first | (rw [if_pos (by decide +kernel)]; kernel_rfl) | (rw [if_neg (by decide +kernel)]; exact ⟨rfl, rfl⟩))
    (fun os started H enc _ => lifted os started H enc)
end fnScenarios
end Go.Proofs.YtbjdbpdgacfcpaaGreat
