/- The law on lists of reserves: listed reserves are forward reserves, rounded up and at least 0, the greatest one is among them, and risks and denominators are the reference's. No condition. -/
import Derived.Test.YtbjdbpdgacfcpaaK0
import Derived.Test.YtbjdbpdgacfcpaaK1
import Derived.Test.YtbjdbpdgacfcpaaK13
import Derived.Test.YtbjdbpdgacfcpaaK14
import Derived.Test.YtbjdbpdgacfcpaaK15
import Derived.Test.YtbjdbpdgacfcpaaK16
import Derived.Test.YtbjdbpdgacfcpaaK17
namespace Go.Proofs.Ytbjdbpdgacfcpaa
open Go.ChangeShapes Go.WideShapes Go.ChangeAt Go.RowKit Go.Deep
namespace fnReserveLists
set_option maxRecDepth 100000 in
set_option maxHeartbeats 8000000 in
theorem walk (K : Code) (hlen : K.bs.length = K.n) (hbyte : ∀ x ∈ K.bs, 0 ≤ x ∧ x ≤ 255) (hmax : K.n ≤ 9223372036854775807) (w : World) (hX : Rd w w.heap.size K.A 1 (byteRows K.bs)) :
    Calls Try.prog 4 #[.slice K.A K.n K.c] w fun e w' => e = .returned (.bool true) ∧ Below w.heap.size w w' := by
  by_cases hbig : 4096 < K.n
  · have hd : decide (4096 < K.n) = true := by simpa using hbig
    clear hX hbyte hlen
    go_enter Try.func4, Try.ntmps4
    go_wp2_with (go_at_call 8; refine (laws_big_any K.A K.n K.c _ (by omega)).mono ?_; rw [hd]; rintro e w' ⟨rfl, rfl⟩)
    go_ret
    exact ⟨rfl, Below.refl _ _⟩
  have hd : decide (4096 < K.n) = false := by simpa using hbig
  have hK : K.Ok := ⟨hlen, by omega, hbyte⟩
  have HH := Lib.hid ((Held.nil w).snoc hX)
  have HB := Lib.hid (Below.refl w.heap.size w)
  clear hX hbyte hlen hbig
  go_enter Try.func4, Try.ntmps4
  go_wp2_with (go_at_call 8; refine (laws_big_any K.A K.n K.c _ (by omega)).mono ?_; rw [hd]; rintro e w' ⟨rfl, rfl⟩)
  refine (spec_DrawReserveList_any K hK _ (HH.out.get 0 rfl)).mono ?_
  rintro e w1 ⟨b0, A0, n0, c0, p0, rfl, hP, hb⟩
  have HF0 := Lib.hid (BF.of hP.liv hP.sm)
  have hp0 : p0.fits := hP.ps.fits
  have HDW0 := Lib.hid (PD_durW hP.sm hP.ps)
  replace HB := Lib.hid (below_all HB.out hb)
  replace HH := Lib.hid ((HH.out.past hb).cons hP.liv.rd)
  clear hb
  clear hP
  obtain ⟨hb, hr0, hr1⟩ := box2 (w := w1) (tx := 28) (ty := 35) (X := [.int .i64 b0.first, .slice A0 n0 c0, .int .i64 b0.rate]) (Y := [.int .i64 p0.kind, .int .i64 p0.age, .int .i64 p0.years, .int .i64 p0.sum, .int .i64 p0.load])
  replace HB := Lib.hid (below_all HB.out hb)
  replace HH := Lib.hid (((HH.out.past hb).cons hr0).cons hr1)
  clear hb hr0 hr1
  have HL_bx0 := Lib.hid (Rd.box (HH.out.get 1 rfl))
  have HL_px0 := Lib.hid (Rd.box (HH.out.get 0 rfl))
  go_wp2_with (first | (refine wpList_load_agg rfl 28 _ rfl ⟨w1.heap.size, 0, none⟩ rfl [.int .i64 b0.first, .slice A0 n0 c0, .int .i64 b0.rate] HL_bx0.out _ Try.underlying28 rfl Bas.size ?_) | (refine wpList_load_agg rfl 35 _ rfl ⟨w1.heap.size + 1, 0, none⟩ rfl [.int .i64 p0.kind, .int .i64 p0.age, .int .i64 p0.years, .int .i64 p0.sum, .int .i64 p0.load] HL_px0.out _ Try.underlying35 rfl Policy.size ?_))
  clear HL_bx0 HL_px0
  generalize ((w1.alloc (.cells #[.int .i64 b0.first, .slice A0 n0 c0, .int .i64 b0.rate] 28)).alloc (.cells #[.int .i64 p0.kind, .int .i64 p0.age, .int .i64 p0.years, .int .i64 p0.sum, .int .i64 p0.load] 35)) = v0 at HB HH ⊢
  generalize w1.heap.size + 1 = g0_1 at HH ⊢
  generalize w1.heap.size = g0_0 at HH ⊢
  refine (impl_ReserveList_any b0 A0 n0 c0 p0 _ (HF0.out.basT (HH.out.get 2 rfl)) hp0).mono ?_
  rintro e w2 ⟨L1, m1, e1, rfl, hR, hb⟩
  have hl1 : (rlP b0 p0).1.length = m1 := by have := hR.len; rwa [intRows_length] at this
  have hc1 : m1 ≤ e1 := res_cap hR
  replace HB := Lib.hid (below_all HB.out hb)
  replace HH := Lib.hid ((HH.out.past hb).cons hR.rd)
  clear hb
  clear hR
  have HL_bx0 := Lib.hid (Rd.box (HH.out.get 2 rfl))
  have HL_px0 := Lib.hid (Rd.box (HH.out.get 1 rfl))
  go_wp2_with (first | (refine wpList_load_agg rfl 28 _ rfl ⟨g0_0, 0, none⟩ rfl [.int .i64 b0.first, .slice A0 n0 c0, .int .i64 b0.rate] HL_bx0.out _ Try.underlying28 rfl Bas.size ?_) | (refine wpList_load_agg rfl 35 _ rfl ⟨g0_1, 0, none⟩ rfl [.int .i64 p0.kind, .int .i64 p0.age, .int .i64 p0.years, .int .i64 p0.sum, .int .i64 p0.load] HL_px0.out _ Try.underlying35 rfl Policy.size ?_))
  clear HL_bx0 HL_px0
  refine (spec_ReserveList_any b0 A0 n0 c0 p0 _ (HF0.out.basT (HH.out.get 3 rfl)) hp0).mono ?_
  rintro e w3 ⟨L2, m2, e2, rfl, hR, hb⟩
  have hl2 : (rlP b0 p0).1.length = m2 := by have := hR.len; rwa [intRows_length] at this
  have hc2 : m2 ≤ e2 := res_cap hR
  obtain rfl : m1 = m2 := by rw [← hl1, ← hl2]
  replace HB := Lib.hid (below_all HB.out hb)
  replace HH := Lib.hid ((HH.out.past hb).cons hR.rd)
  clear hb
  clear hR
  have hs1 : m1 ≤ 1048576 := by rw [← hl1]; have := list_small b0 p0; omega
  have HL_bx0 := Lib.hid (Rd.box (HH.out.get 3 rfl))
  have HL_px0 := Lib.hid (Rd.box (HH.out.get 2 rfl))
  go_wp2_with (first | (refine wpList_load_agg rfl 28 _ rfl ⟨g0_0, 0, none⟩ rfl [.int .i64 b0.first, .slice A0 n0 c0, .int .i64 b0.rate] HL_bx0.out _ Try.underlying28 rfl Bas.size ?_) | (refine wpList_load_agg rfl 35 _ rfl ⟨g0_1, 0, none⟩ rfl [.int .i64 p0.kind, .int .i64 p0.age, .int .i64 p0.years, .int .i64 p0.sum, .int .i64 p0.load] HL_px0.out _ Try.underlying35 rfl Policy.size ?_))
  clear HL_bx0 HL_px0
  refine (impl_GreatestReserve_any b0 A0 n0 c0 p0 _ (HF0.out.basT (HH.out.get 4 rfl)) hp0).mono ?_
  rintro e w4 ⟨rfl, hb⟩
  replace HB := Lib.hid (below_all HB.out hb)
  replace HH := Lib.hid (HH.out.past hb)
  clear hb
  have HL_bx0 := Lib.hid (Rd.box (HH.out.get 3 rfl))
  have HL_px0 := Lib.hid (Rd.box (HH.out.get 2 rfl))
  go_wp2_with (first | (refine wpList_load_agg rfl 28 _ rfl ⟨g0_0, 0, none⟩ rfl [.int .i64 b0.first, .slice A0 n0 c0, .int .i64 b0.rate] HL_bx0.out _ Try.underlying28 rfl Bas.size ?_) | (refine wpList_load_agg rfl 35 _ rfl ⟨g0_1, 0, none⟩ rfl [.int .i64 p0.kind, .int .i64 p0.age, .int .i64 p0.years, .int .i64 p0.sum, .int .i64 p0.load] HL_px0.out _ Try.underlying35 rfl Policy.size ?_))
  clear HL_bx0 HL_px0
  refine (spec_GreatestReserve_any b0 A0 n0 c0 p0 _ (HF0.out.basT (HH.out.get 4 rfl)) hp0).mono ?_
  rintro e w5 ⟨rfl, hb⟩
  replace HB := Lib.hid (below_all HB.out hb)
  replace HH := Lib.hid (HH.out.past hb)
  clear hb
  go_wp2_with fail
  refine (spec_DrawRiskAt_any K hK _ (HH.out.get 5 rfl)).mono ?_
  rintro e w6 ⟨b1, A1, n1, c1, p1, k1, rfl, hP, ⟨hk1a, hk1b⟩, hb⟩
  have HF1 := Lib.hid (BF.of hP.liv hP.sm)
  have hp1 : p1.fits := hP.ps.fits
  have HDW1 := Lib.hid (PD_durW hP.sm hP.ps)
  have hk1 : In64 k1 := in64_lt (by omega)
  replace HB := Lib.hid (below_all HB.out hb)
  replace HH := Lib.hid ((HH.out.past hb).cons hP.liv.rd)
  clear hb
  clear hP
  obtain ⟨hb, hr0, hr1⟩ := box2 (w := w6) (tx := 28) (ty := 35) (X := [.int .i64 b1.first, .slice A1 n1 c1, .int .i64 b1.rate]) (Y := [.int .i64 p1.kind, .int .i64 p1.age, .int .i64 p1.years, .int .i64 p1.sum, .int .i64 p1.load])
  replace HB := Lib.hid (below_all HB.out hb)
  replace HH := Lib.hid (((HH.out.past hb).cons hr0).cons hr1)
  clear hb hr0 hr1
  have HL_bx1 := Lib.hid (Rd.box (HH.out.get 1 rfl))
  have HL_px1 := Lib.hid (Rd.box (HH.out.get 0 rfl))
  go_wp2_with (first | (refine wpList_load_agg rfl 28 _ rfl ⟨w6.heap.size, 0, none⟩ rfl [.int .i64 b1.first, .slice A1 n1 c1, .int .i64 b1.rate] HL_bx1.out _ Try.underlying28 rfl Bas.size ?_) | (refine wpList_load_agg rfl 35 _ rfl ⟨w6.heap.size + 1, 0, none⟩ rfl [.int .i64 p1.kind, .int .i64 p1.age, .int .i64 p1.years, .int .i64 p1.sum, .int .i64 p1.load] HL_px1.out _ Try.underlying35 rfl Policy.size ?_))
  clear HL_bx1 HL_px1
  generalize ((w6.alloc (.cells #[.int .i64 b1.first, .slice A1 n1 c1, .int .i64 b1.rate] 28)).alloc (.cells #[.int .i64 p1.kind, .int .i64 p1.age, .int .i64 p1.years, .int .i64 p1.sum, .int .i64 p1.load] 35)) = v1 at HB HH ⊢
  generalize w6.heap.size + 1 = g1_1 at HH ⊢
  generalize w6.heap.size = g1_0 at HH ⊢
  refine (impl_RiskAt_any b1 A1 n1 c1 p1 k1 _ (HF1.out.basT (HH.out.get 2 rfl)) hp1 hk1).mono ?_
  rintro e w7 ⟨rfl, hb⟩
  replace HB := Lib.hid (below_all HB.out hb)
  replace HH := Lib.hid (HH.out.past hb)
  clear hb
  have HL_bx1 := Lib.hid (Rd.box (HH.out.get 1 rfl))
  have HL_px1 := Lib.hid (Rd.box (HH.out.get 0 rfl))
  go_wp2_with (first | (refine wpList_load_agg rfl 28 _ rfl ⟨g1_0, 0, none⟩ rfl [.int .i64 b1.first, .slice A1 n1 c1, .int .i64 b1.rate] HL_bx1.out _ Try.underlying28 rfl Bas.size ?_) | (refine wpList_load_agg rfl 35 _ rfl ⟨g1_1, 0, none⟩ rfl [.int .i64 p1.kind, .int .i64 p1.age, .int .i64 p1.years, .int .i64 p1.sum, .int .i64 p1.load] HL_px1.out _ Try.underlying35 rfl Policy.size ?_))
  clear HL_bx1 HL_px1
  refine (spec_RiskAt_any b1 A1 n1 c1 p1 k1 _ (HF1.out.basT (HH.out.get 2 rfl)) hp1 hk1 HDW1.out).mono ?_
  rintro e w8 ⟨rfl, hb⟩
  replace HB := Lib.hid (below_all HB.out hb)
  replace HH := Lib.hid (HH.out.past hb)
  clear hb
  go_wp2_with fail
  refine (spec_DrawDenominatorAt_any K hK _ (HH.out.get 8 rfl)).mono ?_
  rintro e w9 ⟨b2, A2, n2, c2, p2, k2, rfl, hP, ⟨hk2a, hk2b⟩, hb⟩
  have HF2 := Lib.hid (BF.of hP.liv hP.sm)
  have hp2 : p2.fits := hP.ps.fits
  have HDW2 := Lib.hid (PD_durW hP.sm hP.ps)
  have hk2 : In64 k2 := in64_lt (by omega)
  replace HB := Lib.hid (below_all HB.out hb)
  replace HH := Lib.hid ((HH.out.past hb).cons hP.liv.rd)
  clear hb
  clear hP
  obtain ⟨hb, hr0, hr1⟩ := box2 (w := w9) (tx := 28) (ty := 35) (X := [.int .i64 b2.first, .slice A2 n2 c2, .int .i64 b2.rate]) (Y := [.int .i64 p2.kind, .int .i64 p2.age, .int .i64 p2.years, .int .i64 p2.sum, .int .i64 p2.load])
  replace HB := Lib.hid (below_all HB.out hb)
  replace HH := Lib.hid (((HH.out.past hb).cons hr0).cons hr1)
  clear hb hr0 hr1
  have HL_bx2 := Lib.hid (Rd.box (HH.out.get 1 rfl))
  have HL_px2 := Lib.hid (Rd.box (HH.out.get 0 rfl))
  go_wp2_with (first | (refine wpList_load_agg rfl 28 _ rfl ⟨w9.heap.size, 0, none⟩ rfl [.int .i64 b2.first, .slice A2 n2 c2, .int .i64 b2.rate] HL_bx2.out _ Try.underlying28 rfl Bas.size ?_) | (refine wpList_load_agg rfl 35 _ rfl ⟨w9.heap.size + 1, 0, none⟩ rfl [.int .i64 p2.kind, .int .i64 p2.age, .int .i64 p2.years, .int .i64 p2.sum, .int .i64 p2.load] HL_px2.out _ Try.underlying35 rfl Policy.size ?_))
  clear HL_bx2 HL_px2
  generalize ((w9.alloc (.cells #[.int .i64 b2.first, .slice A2 n2 c2, .int .i64 b2.rate] 28)).alloc (.cells #[.int .i64 p2.kind, .int .i64 p2.age, .int .i64 p2.years, .int .i64 p2.sum, .int .i64 p2.load] 35)) = v2 at HB HH ⊢
  generalize w9.heap.size + 1 = g2_1 at HH ⊢
  generalize w9.heap.size = g2_0 at HH ⊢
  refine (impl_DenominatorAt_any b2 A2 n2 c2 p2 k2 _ (HF2.out.basT (HH.out.get 2 rfl)) hp2 hk2).mono ?_
  rintro e w10 ⟨rfl, hb⟩
  replace HB := Lib.hid (below_all HB.out hb)
  replace HH := Lib.hid (HH.out.past hb)
  clear hb
  have HL_bx2 := Lib.hid (Rd.box (HH.out.get 1 rfl))
  have HL_px2 := Lib.hid (Rd.box (HH.out.get 0 rfl))
  go_wp2_with (first | (refine wpList_load_agg rfl 28 _ rfl ⟨g2_0, 0, none⟩ rfl [.int .i64 b2.first, .slice A2 n2 c2, .int .i64 b2.rate] HL_bx2.out _ Try.underlying28 rfl Bas.size ?_) | (refine wpList_load_agg rfl 35 _ rfl ⟨g2_1, 0, none⟩ rfl [.int .i64 p2.kind, .int .i64 p2.age, .int .i64 p2.years, .int .i64 p2.sum, .int .i64 p2.load] HL_px2.out _ Try.underlying35 rfl Policy.size ?_))
  clear HL_bx2 HL_px2
  refine (spec_DenominatorAt_any b2 A2 n2 c2 p2 k2 _ (HF2.out.basT (HH.out.get 2 rfl)) hp2 hk2).mono ?_
  rintro e w11 ⟨rfl, hb⟩
  replace HB := Lib.hid (below_all HB.out hb)
  replace HH := Lib.hid (HH.out.past hb)
  clear hb
  have hgc := great_code b0 p0
  rw [hgc]
  clear hd hmax hK hl2 hgc
  go_wp2_with fail
  refine (likeInts_any L1 m1 e1 L2 e2 (rlP b0 p0).1 _ hl1 hs1 (HH.out.get 7 rfl) (HH.out.get 6 rfl)).mono ?_
  rintro e w12 ⟨rfl, hb⟩
  replace HB := Lib.hid (below_all HB.out hb)
  replace HH := Lib.hid (HH.out.past hb)
  clear hb
  cases hcd : ((rlP b0 p0).2 == 0)
  · skip
    have hcd2 : ((rlP b0 p0).2 != 0) = true := by simpa [bne] using hcd
    go_wp2_with fail
    go_ret
    exact ⟨rfl, HB.out⟩
  · skip
    have hcd2 : ((rlP b0 p0).2 != 0) = false := by simpa [bne] using hcd
    obtain ⟨n, k, g1, g2, g3, g4, g5, g6⟩ := lists_good (show (rlP b0 p0).2 = 0 by simpa using hcd)
    have e1 : (greatP b0 p0).1 = rlAt b0 p0 k := by rw [g5]
    have e2 : (greatP b0 p0).2.1 = (k : Int) := by rw [g5]
    rw [e1, e2]
    rw [g3] at HH hl1
    have hmn : m1 = n := by rw [← hl1, rlTo_length]
    subst hmn
    have HG := Lib.hid g6
    have HKL := Lib.hid g4
    obtain ⟨mx, hmx⟩ : ∃ mx, mx = rlAt b0 p0 k := ⟨_, rfl⟩
    rw [← hmx]
    have HMX := Lib.hid hmx
    clear e1 e2 g3 g5 g6 hmx g4
    go_wp2_with fail
    go_loopw [29] (fun i wr => ∃ a : Nat, a ≤ m1 ∧ i = .int .i64 a ∧ Below w12.heap.size w12 wr) (fun i _ => m1 - (intOf i).toNat)
    case atStart => exact ⟨0, by omega, rfl, Below.refl _ _⟩
    case round =>
      obtain ⟨a, ha, rfl, hb⟩ := hrel
      have HW := Lib.hid hb
      replace HB := Lib.hid (below_all HB.out hb)
      replace HH := Lib.hid (HH.out.past hb)
      clear hb
      by_cases hlt : a < m1
      · obtain ⟨q1, ⟨q2, q3⟩, ⟨q4, q5⟩, q6, q7⟩ := HG.out a hlt
        obtain ⟨ad, rfl, had, hc⟩ := ((HH.out.get 7 rfl)).int_at (rlTo_get b0 p0 hlt)
        have hai : (a : Int) < (m1 : Int) := by omega
        have hak : (a : Int) + 1 ≤ (m1 : Int) := by omega
        have hia : In64 (a : Int) := in64_lt (by omega)
        obtain ⟨ai, hai2⟩ : ∃ ai : Int, ai = (a : Int) := ⟨_, rfl⟩
        have HAI := Lib.hid hai2; clear hai2
        have HQ1 := Lib.hid q1
        generalize hf1 : (fwdAt b0 p0 (a : Int)).1 = f1 at *
        generalize hf2 : (fwdAt b0 p0 (a : Int)).2 = f2 at *
        generalize hra : rlAt b0 p0 a = ra at *
        rw [← HMX.out] at q7
        clear hf1 hf2 hra q1
        have HC := Lib.hid hc; clear hc
        have HQ6 := Lib.hid q6; clear q6
        have HL_bx0 := Lib.hid (Rd.box (HH.out.get 9 rfl))
        have HL_px0 := Lib.hid (Rd.box (HH.out.get 8 rfl))
        go_wp2_with (first | (refine wpList_load_agg rfl 28 _ rfl ⟨g0_0, 0, none⟩ rfl [.int .i64 b0.first, .slice A0 n0 c0, .int .i64 b0.rate] HL_bx0.out _ Try.underlying28 rfl Bas.size ?_) | (refine wpList_load_agg rfl 35 _ rfl ⟨g0_1, 0, none⟩ rfl [.int .i64 p0.kind, .int .i64 p0.age, .int .i64 p0.years, .int .i64 p0.sum, .int .i64 p0.load] HL_px0.out _ Try.underlying35 rfl Policy.size ?_))
        clear HL_bx0 HL_px0
        refine (impl_ForwardReserve_any b0 A0 n0 c0 p0 (a : Int) _ (HF0.out.basT (HH.out.get 10 rfl)) hp0 hia).mono ?_
        rw [HQ1.out]
        rintro e w13 ⟨rfl, hb⟩
        replace HW := Lib.hid (HW.out.trans (hb.mono HW.out.size))
        have hc := (hb.cell (p := ad.add a) (by rw [block_of_add]; exact had)).trans HC.out
        replace HB := Lib.hid (below_all HB.out hb)
        replace HH := Lib.hid (HH.out.past hb)
        clear hb
        have hm0 : 0 ≤ min 1 f2 := by omega
        have hm1 : min 1 f2 ≤ 1 := by omega
        have hq6 : (ra != max 0 (f1 + min 1 f2)) = false := by rw [HQ6.out]; simp
        have hq7 : decide (mx < ra) = false := by simp; omega
        go_wp2
        go_roundw
        case rel => exact ⟨a + 1, by omega, by go_num, HW.out⟩
        case measure => simp [intOf]; omega
      · have hai : ¬ (a : Int) < (m1 : Int) := by omega
        obtain ⟨ad, rfl, had, hc⟩ := ((HH.out.get 6 rfl)).int_at (rlTo_get b0 p0 HKL.out)
        rw [← HMX.out] at hc
        have hk9 := HKL.out
        have hki : (k : Int) < (m1 : Int) := by omega
        go_wp2
        go_ret
        exact ⟨rfl, HB.out⟩
set_option maxRecDepth 100000 in
theorem lifted (os : Os) (started : os.Started) (H : Type) (enc : TypeId × Value → H) :
    ReturnsInHanded {} Try.checked os 4 .any (Rows.fnReserveListsSpec.pre6 enc Try.prog Try.f4 Rows.fnReserveListsRow.domain false) (Rows.fnReserveListsSpec.post enc Try.prog Try.f4 false true false false) := by
  refine law_lifted os started H enc 4 (by kernel_rfl) Try.func4
    (ChangeSpec.witness6 (enc := enc) (C := Try.checked) false ⟨#[], #[.slice none 0 0], []⟩ 8 (by kernel_rfl) (by kernel_rfl) (by kernel_rfl) (by kernel_rfl)) rfl rfl Try.underlying4
    (by rw [Try.params4]; simp only [List.forall_mem_cons]; exact ⟨⟨by kernel_rfl, of_decide_eq_true (by kernel_rfl)⟩, by simp⟩) (fun ds hl => by
      match ds, hl with
      | [d0], _ => rfl) ?_
  intro W base args ds p hval hA
  rw [Try.params4] at hA hval
  obtain ⟨v0, vs0, d0, ds0, p0, q0, hargs, rfl, rfl, h0, rr0⟩ := trodAll_cons hA
  obtain ⟨rfl, rfl, rfl⟩ := trodAll_nil rr0
  obtain rfl : args = #[v0] := by cases args; simp_all
  obtain ⟨A0, n0, c0, rfl⟩ := okWide_slice Try.underlying22 (hval 0 22 v0 rfl rfl)
  obtain ⟨fu0, ho0⟩ := h0
  obtain ⟨bs, hbl, hby, hRd, hnm⟩ := open_code Try.underlying22 Try.underlying5 (by kernel_rfl) ho0
  exact walk ⟨A0, n0, c0, bs⟩ hbl hby hnm W hRd
theorem proved : Rows.FnReserveListsSaid :=
  OpenClaim.holds_of_wide 4 Try.f4 rfl rfl rfl rfl rfl rfl rfl ⟨rfl, rfl, rfl, rfl, rfl⟩ rfl rfl rfl rfl rfl (by kernel_rfl) Try.func4 (by kernel_rfl)
    (of_decide_eq_true (by kernel_rfl)) (by unfold Func.isWrapper; first | (rw [if_pos (by decide +kernel)]; kernel_rfl) | (rw [if_neg (by decide +kernel)]; exact ⟨rfl, rfl⟩))
    (fun os started H enc _ => lifted os started H enc)
end fnReserveLists
end Go.Proofs.Ytbjdbpdgacfcpaa
