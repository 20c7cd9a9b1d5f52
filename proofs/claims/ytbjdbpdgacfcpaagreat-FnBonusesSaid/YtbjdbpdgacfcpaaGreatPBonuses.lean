/- The law on bonuses: every cent of a surplus is kept or given. No condition. -/
import Derived.Test.YtbjdbpdgacfcpaaGreatK0
import Derived.Test.YtbjdbpdgacfcpaaGreatK1
import Derived.Test.YtbjdbpdgacfcpaaGreatK17
import Derived.Test.YtbjdbpdgacfcpaaGreatK18
import Derived.Test.YtbjdbpdgacfcpaaGreatK22
import Derived.Test.YtbjdbpdgacfcpaaGreatK23
namespace Go.Proofs.YtbjdbpdgacfcpaaGreat
open Go.ChangeShapes Go.WideShapes Go.ChangeAt Go.RowKit Go.Deep
namespace fnBonuses
set_option maxRecDepth 100000 in
set_option maxHeartbeats 8000000 in
theorem walk (K : Code) (hlen : K.bs.length = K.n) (hbyte : ∀ x ∈ K.bs, 0 ≤ x ∧ x ≤ 255) (hmax : K.n ≤ 9223372036854775807) (w : World) (hX : Rd w w.heap.size K.A 1 (byteRows K.bs)) :
    Calls Tryz.prog 7 #[.slice K.A K.n K.c] w fun e w' => e = .returned (.bool true) ∧ Below w.heap.size w w' := by
  by_cases hbig : 4096 < K.n
  · have hd : decide (4096 < K.n) = true := by simpa using hbig
    clear hX hbyte hlen
    go_enter Tryz.func7, Tryz.ntmps7
    go_wp2_with (go_at_call 8; refine (laws_big_any K.A K.n K.c _ (by omega)).mono ?_; rw [hd]; rintro e w' ⟨rfl, rfl⟩)
    go_ret
    exact ⟨rfl, Below.refl _ _⟩
  have hd : decide (4096 < K.n) = false := by simpa using hbig
  have hK : K.Ok := ⟨hlen, by omega, hbyte⟩
  have HH := Lib.hid ((Held.nil w).snoc hX)
  have HB := Lib.hid (Below.refl w.heap.size w)
  clear hX hbyte hlen hbig
  go_enter Tryz.func7, Tryz.ntmps7
  go_wp2_with (go_at_call 8; refine (laws_big_any K.A K.n K.c _ (by omega)).mono ?_; rw [hd]; rintro e w' ⟨rfl, rfl⟩)
  refine (spec_DrawDivideBonus_any K hK _ (HH.out.get 0 rfl)).mono ?_
  rintro e w1 ⟨b0, A0, n0, c0, H0, k0, e0, xs0, a0, s0, rfl, hP, ha0, hs0, hb⟩
  have HF0 := Lib.hid hP.pf
  have hxl0 := HF0.out.xlen
  have hkl0 := HF0.out.len
  have ha64 : In64 a0 := in64_lt (by omega)
  have hs64 : In64 s0 := in64_lt (by omega)
  have hds := dv_lenle b0 xs0 a0 s0
  have hws := weightsP_lenle b0 xs0
  obtain ⟨kp, kt, hkp⟩ : ∃ kp kt, keptPart a0 s0 = (kp, kt) := ⟨_, _, rfl⟩
  have HKP := Lib.hid hkp; clear hkp
  replace HB := Lib.hid (below_all HB.out hb)
  replace HH := Lib.hid (((HH.out.past hb).cons hP.liv.rd).cons hP.res.rd)
  clear hb
  clear hP
  obtain ⟨hb, hr0⟩ := box1 (w := w1) (tx := 28) (X := [.int .i64 b0.first, .slice A0 n0 c0, .int .i64 b0.rate])
  replace HB := Lib.hid (below_all HB.out hb)
  replace HH := Lib.hid ((HH.out.past hb).cons hr0)
  clear hb hr0
  have HL_bx0 := Lib.hid (Rd.box (HH.out.get 0 rfl))
  go_wp2_with (refine wpList_load_agg rfl 28 _ rfl ⟨w1.heap.size, 0, none⟩ rfl [.int .i64 b0.first, .slice A0 n0 c0, .int .i64 b0.rate] HL_bx0.out _ Tryz.underlying28 rfl Bas.size ?_)
  clear HL_bx0
  generalize (w1.alloc (.cells #[.int .i64 b0.first, .slice A0 n0 c0, .int .i64 b0.rate] 28)) = v0 at HB HH ⊢
  generalize w1.heap.size = g0_0 at HH ⊢
  refine (impl_DivideBonus_any b0 A0 n0 c0 H0 k0 e0 xs0 a0 s0 _ (HF0.out.bf.basT (HH.out.get 2 rfl)) hxl0 (by omega) (HH.out.get 1 rfl) HF0.out.fits ha64 hs64).mono ?_
  rintro e w2 ⟨A1, n1, c1, rfl, hR, hb⟩
  have hl1 : (dvP b0 xs0 a0 s0).1.length = n1 := by have := hR.len; rwa [intRows_length] at this
  replace HB := Lib.hid (below_all HB.out hb)
  replace HH := Lib.hid ((HH.out.past hb).cons hR.rd)
  clear hb
  clear hR
  have HL_bx0 := Lib.hid (Rd.box (HH.out.get 1 rfl))
  go_wp2_with (refine wpList_load_agg rfl 28 _ rfl ⟨g0_0, 0, none⟩ rfl [.int .i64 b0.first, .slice A0 n0 c0, .int .i64 b0.rate] HL_bx0.out _ Tryz.underlying28 rfl Bas.size ?_)
  clear HL_bx0
  refine (spec_DivideBonus_any b0 A0 n0 c0 H0 k0 e0 xs0 a0 s0 _ (HF0.out.bf.basT (HH.out.get 3 rfl)) hxl0 (by omega) (HH.out.get 2 rfl) HF0.out.fits ha64 hs64).mono ?_
  rintro e w3 ⟨A2, n2, c2, rfl, hR, hb⟩
  have hl2 : (dvP b0 xs0 a0 s0).1.length = n2 := by have := hR.len; rwa [intRows_length] at this
  obtain rfl : n1 = n2 := by rw [← hl1, ← hl2]
  replace HB := Lib.hid (below_all HB.out hb)
  replace HH := Lib.hid ((HH.out.past hb).cons hR.rd)
  clear hb
  clear hR
  have HL_bx0 := Lib.hid (Rd.box (HH.out.get 2 rfl))
  go_wp2_with (refine wpList_load_agg rfl 28 _ rfl ⟨g0_0, 0, none⟩ rfl [.int .i64 b0.first, .slice A0 n0 c0, .int .i64 b0.rate] HL_bx0.out _ Tryz.underlying28 rfl Bas.size ?_)
  clear HL_bx0
  refine (impl_BonusWeights_any b0 A0 n0 c0 H0 k0 e0 xs0 _ (HF0.out.bf.basT (HH.out.get 4 rfl)) hxl0 (by omega) (HH.out.get 3 rfl) HF0.out.fits).mono ?_
  rintro e w4 ⟨A3, n3, c3, rfl, hR, hb⟩
  have hl3 : (weightsP b0 xs0).1.length = n3 := by have := hR.len; rwa [intRows_length] at this
  replace HB := Lib.hid (below_all HB.out hb)
  replace HH := Lib.hid ((HH.out.past hb).cons hR.rd)
  clear hb
  clear hR
  have HL_bx0 := Lib.hid (Rd.box (HH.out.get 3 rfl))
  go_wp2_with (refine wpList_load_agg rfl 28 _ rfl ⟨g0_0, 0, none⟩ rfl [.int .i64 b0.first, .slice A0 n0 c0, .int .i64 b0.rate] HL_bx0.out _ Tryz.underlying28 rfl Bas.size ?_)
  clear HL_bx0
  refine (spec_BonusWeights_any b0 A0 n0 c0 H0 k0 e0 xs0 _ (HF0.out.bf.basT (HH.out.get 5 rfl)) hxl0 (by omega) (HH.out.get 4 rfl) HF0.out.fits).mono ?_
  rintro e w5 ⟨A4, n4, c4, rfl, hR, hb⟩
  have hl4 : (weightsP b0 xs0).1.length = n4 := by have := hR.len; rwa [intRows_length] at this
  obtain rfl : n3 = n4 := by rw [← hl3, ← hl4]
  replace HB := Lib.hid (below_all HB.out hb)
  replace HH := Lib.hid ((HH.out.past hb).cons hR.rd)
  clear hb
  clear hR
  have hn1 : n1 ≤ 1048576 := by omega
  have hn3 : n3 ≤ 1048576 := by omega
  go_wp2_with fail
  refine (impl_KeptPart_any a0 s0 _).mono ?_
  rw [HKP.out]; dsimp only []
  rintro e w' ⟨rfl, rfl⟩
  go_wp2_with fail
  refine (spec_KeptPart_any a0 s0 _).mono ?_
  rw [HKP.out]; dsimp only []
  rintro e w' ⟨rfl, rfl⟩
  go_wp2_with fail
  refine (spec_DrawBonusRate_any K hK _ (HH.out.get 7 rfl)).mono ?_
  rintro e w6 ⟨b3, A5, n5, c5, H5, k5, e5, xs5, x5, rfl, hP, hx5, hb⟩
  have HF5 := Lib.hid hP.pf
  have hxl5 := HF5.out.xlen
  have hkl5 := HF5.out.len
  have hx64 : In64 x5 := in64_lt (by omega)
  replace HB := Lib.hid (below_all HB.out hb)
  replace HH := Lib.hid (((HH.out.past hb).cons hP.liv.rd).cons hP.res.rd)
  clear hb
  clear hP
  obtain ⟨hb, hr0⟩ := box1 (w := w6) (tx := 28) (X := [.int .i64 b3.first, .slice A5 n5 c5, .int .i64 b3.rate])
  replace HB := Lib.hid (below_all HB.out hb)
  replace HH := Lib.hid ((HH.out.past hb).cons hr0)
  clear hb hr0
  have HL_bx3 := Lib.hid (Rd.box (HH.out.get 0 rfl))
  go_wp2_with (refine wpList_load_agg rfl 28 _ rfl ⟨w6.heap.size, 0, none⟩ rfl [.int .i64 b3.first, .slice A5 n5 c5, .int .i64 b3.rate] HL_bx3.out _ Tryz.underlying28 rfl Bas.size ?_)
  clear HL_bx3
  generalize (w6.alloc (.cells #[.int .i64 b3.first, .slice A5 n5 c5, .int .i64 b3.rate] 28)) = v1 at HB HH ⊢
  generalize w6.heap.size = g1_0 at HH ⊢
  refine (impl_BonusRate_any b3 A5 n5 c5 H5 k5 e5 xs5 _ (HF5.out.bf.basT (HH.out.get 2 rfl)) hxl5 (by omega) (HH.out.get 1 rfl) HF5.out.fits x5 hx64).mono ?_
  rintro e w7 ⟨rfl, hb⟩
  replace HB := Lib.hid (below_all HB.out hb)
  replace HH := Lib.hid (HH.out.past hb)
  clear hb
  have HL_bx3 := Lib.hid (Rd.box (HH.out.get 0 rfl))
  go_wp2_with (refine wpList_load_agg rfl 28 _ rfl ⟨g1_0, 0, none⟩ rfl [.int .i64 b3.first, .slice A5 n5 c5, .int .i64 b3.rate] HL_bx3.out _ Tryz.underlying28 rfl Bas.size ?_)
  clear HL_bx3
  refine (spec_BonusRate_any b3 A5 n5 c5 H5 k5 e5 xs5 _ (HF5.out.bf.basT (HH.out.get 2 rfl)) hxl5 (by omega) (HH.out.get 1 rfl) HF5.out.fits x5 hx64).mono ?_
  rintro e w8 ⟨rfl, hb⟩
  replace HB := Lib.hid (below_all HB.out hb)
  replace HH := Lib.hid (HH.out.past hb)
  clear hb
  go_wp2_with fail
  refine (spec_DrawCashEach_any K hK _ (HH.out.get 10 rfl)).mono ?_
  rintro e w9 ⟨ct, v6, rfl, hct, hv6, hb⟩
  have hv64 : In64 v6 := in64_lt (by omega)
  have hhf : (⟨0, 0, 0, 0, 0, 0, ct⟩ : Holding).fits := by unfold Holding.fits In64; simp; omega
  obtain ⟨ce, cr, cs, hce⟩ : ∃ ce cr cs, cashEach ⟨0, 0, 0, 0, 0, 0, ct⟩ v6 = (ce, cr, cs) := ⟨_, _, _, rfl⟩
  have HCE := Lib.hid hce; clear hce
  replace HB := Lib.hid (below_all HB.out hb)
  replace HH := Lib.hid (HH.out.past hb)
  clear hb
  obtain ⟨hb, hr0⟩ := box1 (w := w9) (tx := 90) (X := [.int .i64 0, .int .i64 0, .int .i64 0, .int .i64 0, .int .i64 0, .int .i64 0, .int .i64 ct])
  replace HB := Lib.hid (below_all HB.out hb)
  replace HH := Lib.hid ((HH.out.past hb).cons hr0)
  clear hb hr0
  have HL_hx6 := Lib.hid (Rd.box (HH.out.get 0 rfl))
  go_wp2_with (refine wpList_load_agg rfl 90 _ rfl ⟨w9.heap.size, 0, none⟩ rfl [.int .i64 0, .int .i64 0, .int .i64 0, .int .i64 0, .int .i64 0, .int .i64 0, .int .i64 ct] HL_hx6.out _ Tryz.underlying90 rfl Holding.size ?_)
  clear HL_hx6
  generalize (w9.alloc (.cells #[.int .i64 0, .int .i64 0, .int .i64 0, .int .i64 0, .int .i64 0, .int .i64 0, .int .i64 ct] 90)) = v2 at HB HH ⊢
  generalize w9.heap.size = g2_0 at HH ⊢
  refine (impl_CashEach_any ⟨0, 0, 0, 0, 0, 0, ct⟩ v6 _ hhf hv64).mono ?_
  rw [HCE.out]; dsimp only []
  rintro e w10 ⟨rfl, hb⟩
  replace HB := Lib.hid (below_all HB.out hb)
  replace HH := Lib.hid (HH.out.past hb)
  clear hb
  have HL_hx6 := Lib.hid (Rd.box (HH.out.get 0 rfl))
  go_wp2_with (refine wpList_load_agg rfl 90 _ rfl ⟨g2_0, 0, none⟩ rfl [.int .i64 0, .int .i64 0, .int .i64 0, .int .i64 0, .int .i64 0, .int .i64 0, .int .i64 ct] HL_hx6.out _ Tryz.underlying90 rfl Holding.size ?_)
  clear HL_hx6
  refine (spec_CashEach_any ⟨0, 0, 0, 0, 0, 0, ct⟩ v6 _ hhf hv64).mono ?_
  rw [HCE.out]; dsimp only []
  rintro e w11 ⟨rfl, hb⟩
  replace HB := Lib.hid (below_all HB.out hb)
  replace HH := Lib.hid (HH.out.past hb)
  clear hb
  go_wp2_with fail
  refine (likeInts_any A1 n1 c1 A2 c2 (dvP b0 xs0 a0 s0).1 _ hl1 hn1 (HH.out.get 7 rfl) (HH.out.get 6 rfl)).mono ?_
  rintro e w12 ⟨rfl, hb⟩
  replace HB := Lib.hid (below_all HB.out hb)
  replace HH := Lib.hid (HH.out.past hb)
  clear hb
  go_wp2_with fail
  refine (likeInts_any A3 n3 c3 A4 c4 (weightsP b0 xs0).1 _ hl3 hn3 (HH.out.get 5 rfl) (HH.out.get 4 rfl)).mono ?_
  rintro e w13 ⟨rfl, hb⟩
  replace HB := Lib.hid (below_all HB.out hb)
  replace HH := Lib.hid (HH.out.past hb)
  clear hb
  clear hd hmax hK hl2 hl4
  cases hct0 : (cs == 0)
  · skip
    cases hkt : (kt == 0)
    · skip
      cases hbd : ((dvP b0 xs0 a0 s0).2 == 0)
      · skip
        have hbd2 : ((dvP b0 xs0 a0 s0).2 != 0) = true := by simpa [bne] using hbd
        go_wp2_with fail
        go_ret
        exact ⟨rfl, HB.out⟩
      · skip
        have hbd2 : ((dvP b0 xs0 a0 s0).2 != 0) = false := by simpa [bne] using hbd
        have hd0 : (dvP b0 xs0 a0 s0).2 = 0 := by simpa using hbd
        have hk1 : (kt == 0) = true := by simpa using dv_kept HKP.out hd0
        obtain ⟨hSo, hSm⟩ := dv_good HKP.out hd0
        obtain ⟨ka, _, _, _, _, _, kb⟩ := kept_good HKP.out (dv_kept HKP.out hd0)
        have HSO := Lib.hid hSo; have HSM := Lib.hid hSm; clear hSo hSm hd0
        have hk2 : kt = 0 := by simpa using hk1
        go_wp2_with fail
        refine (laws_sum_any A1 n1 c1 (dvP b0 xs0 a0 s0).1 _ hl1 hn1 (HH.out.get 7 rfl) HSO.out).mono ?_
        rw [HSM.out]
        rintro e w' ⟨rfl, rfl⟩
        have hrt : IntKind.i64.wrap (a0 - kp + kp) = a0 := by rw [IntWalk.i64_in _ (by omega)]; omega
        go_wp2_with fail
        go_ret
        exact ⟨rfl, HB.out⟩
    · skip
      obtain ⟨ka, ks, _, km, k1, k2, kb⟩ := kept_good HKP.out (show kt = 0 by simpa using hkt)
      have ksw : IntKind.i64.wrap (a0 * s0) = a0 * s0 := IntWalk.i64_in _ (by omega)
      generalize hpr : a0 * s0 = pr at ksw km k1 k2
      have hq1 : decide (1000 * kp < pr) = false := by simp; omega
      have hq2 : decide (pr ≤ 1000 * (kp - 1)) = false := by simp; omega
      subst hpr
      cases hbd : ((dvP b0 xs0 a0 s0).2 == 0)
      · skip
        have hbd2 : ((dvP b0 xs0 a0 s0).2 != 0) = true := by simpa [bne] using hbd
        go_wp2_with fail
        go_ret
        exact ⟨rfl, HB.out⟩
      · skip
        have hbd2 : ((dvP b0 xs0 a0 s0).2 != 0) = false := by simpa [bne] using hbd
        have hd0 : (dvP b0 xs0 a0 s0).2 = 0 := by simpa using hbd
        have hk1 : (kt == 0) = true := by simpa using dv_kept HKP.out hd0
        obtain ⟨hSo, hSm⟩ := dv_good HKP.out hd0
        obtain ⟨ka, _, _, _, _, _, kb⟩ := kept_good HKP.out (dv_kept HKP.out hd0)
        have HSO := Lib.hid hSo; have HSM := Lib.hid hSm; clear hSo hSm hd0
        have hk2 : kt = 0 := by simpa using hk1
        go_wp2_with fail
        refine (laws_sum_any A1 n1 c1 (dvP b0 xs0 a0 s0).1 _ hl1 hn1 (HH.out.get 7 rfl) HSO.out).mono ?_
        rw [HSM.out]
        rintro e w' ⟨rfl, rfl⟩
        have hrt : IntKind.i64.wrap (a0 - kp + kp) = a0 := by rw [IntWalk.i64_in _ (by omega)]; omega
        go_wp2_with fail
        go_ret
        exact ⟨rfl, HB.out⟩
  · skip
    obtain ⟨q1, q2, q3, q4, q5⟩ := cash_good HCE.out (show cs = 0 by simpa using hct0)
    have q1' : ce * ct + cr = v6 := q1
    have q3' : cr < ct := q3
    have q4' : 0 ≤ ce * ct := q4
    have q5' : ce * ct ≤ 1000000000 := q5
    clear q1 q3 q4 q5
    have q6 : IntKind.i64.wrap (ce * ct) = ce * ct := IntWalk.i64_in _ (by omega)
    have q7 : IntKind.i64.wrap (ce * ct + cr) = v6 := by rw [IntWalk.i64_in _ (by omega)]; exact q1'
    have q8 : decide (cr < 0) = false := by simp; omega
    have q9 : decide (ct ≤ cr) = false := by simp; omega
    have p0 : w13.cell? ⟨g2_0, 0, none⟩ = some (.int .i64 0) := Rd.bcell (HH.out.get 0 rfl) 0 rfl
    have p1 : w13.cell? ⟨g2_0, 1, none⟩ = some (.int .i64 0) := Rd.bcell (HH.out.get 0 rfl) 1 rfl
    have p2 : w13.cell? ⟨g2_0, 2, none⟩ = some (.int .i64 0) := Rd.bcell (HH.out.get 0 rfl) 2 rfl
    have p3 : w13.cell? ⟨g2_0, 3, none⟩ = some (.int .i64 0) := Rd.bcell (HH.out.get 0 rfl) 3 rfl
    have p4 : w13.cell? ⟨g2_0, 4, none⟩ = some (.int .i64 0) := Rd.bcell (HH.out.get 0 rfl) 4 rfl
    have p5 : w13.cell? ⟨g2_0, 5, none⟩ = some (.int .i64 0) := Rd.bcell (HH.out.get 0 rfl) 5 rfl
    have p6 : w13.cell? ⟨g2_0, 6, none⟩ = some (.int .i64 ct) := Rd.bcell (HH.out.get 0 rfl) 6 rfl
    cases hkt : (kt == 0)
    · skip
      cases hbd : ((dvP b0 xs0 a0 s0).2 == 0)
      · skip
        have hbd2 : ((dvP b0 xs0 a0 s0).2 != 0) = true := by simpa [bne] using hbd
        go_wp2_with fail
        go_ret
        exact ⟨rfl, HB.out⟩
      · skip
        have hbd2 : ((dvP b0 xs0 a0 s0).2 != 0) = false := by simpa [bne] using hbd
        have hd0 : (dvP b0 xs0 a0 s0).2 = 0 := by simpa using hbd
        have hk1 : (kt == 0) = true := by simpa using dv_kept HKP.out hd0
        obtain ⟨hSo, hSm⟩ := dv_good HKP.out hd0
        obtain ⟨ka, _, _, _, _, _, kb⟩ := kept_good HKP.out (dv_kept HKP.out hd0)
        have HSO := Lib.hid hSo; have HSM := Lib.hid hSm; clear hSo hSm hd0
        have hk2 : kt = 0 := by simpa using hk1
        go_wp2_with fail
        refine (laws_sum_any A1 n1 c1 (dvP b0 xs0 a0 s0).1 _ hl1 hn1 (HH.out.get 7 rfl) HSO.out).mono ?_
        rw [HSM.out]
        rintro e w' ⟨rfl, rfl⟩
        have hrt : IntKind.i64.wrap (a0 - kp + kp) = a0 := by rw [IntWalk.i64_in _ (by omega)]; omega
        go_wp2_with fail
        go_ret
        exact ⟨rfl, HB.out⟩
    · skip
      obtain ⟨ka, ks, _, km, k1, k2, kb⟩ := kept_good HKP.out (show kt = 0 by simpa using hkt)
      have ksw : IntKind.i64.wrap (a0 * s0) = a0 * s0 := IntWalk.i64_in _ (by omega)
      generalize hpr : a0 * s0 = pr at ksw km k1 k2
      have hq1 : decide (1000 * kp < pr) = false := by simp; omega
      have hq2 : decide (pr ≤ 1000 * (kp - 1)) = false := by simp; omega
      subst hpr
      cases hbd : ((dvP b0 xs0 a0 s0).2 == 0)
      · skip
        have hbd2 : ((dvP b0 xs0 a0 s0).2 != 0) = true := by simpa [bne] using hbd
        go_wp2_with fail
        go_ret
        exact ⟨rfl, HB.out⟩
      · skip
        have hbd2 : ((dvP b0 xs0 a0 s0).2 != 0) = false := by simpa [bne] using hbd
        have hd0 : (dvP b0 xs0 a0 s0).2 = 0 := by simpa using hbd
        have hk1 : (kt == 0) = true := by simpa using dv_kept HKP.out hd0
        obtain ⟨hSo, hSm⟩ := dv_good HKP.out hd0
        obtain ⟨ka, _, _, _, _, _, kb⟩ := kept_good HKP.out (dv_kept HKP.out hd0)
        have HSO := Lib.hid hSo; have HSM := Lib.hid hSm; clear hSo hSm hd0
        have hk2 : kt = 0 := by simpa using hk1
        go_wp2_with fail
        refine (laws_sum_any A1 n1 c1 (dvP b0 xs0 a0 s0).1 _ hl1 hn1 (HH.out.get 7 rfl) HSO.out).mono ?_
        rw [HSM.out]
        rintro e w' ⟨rfl, rfl⟩
        have hrt : IntKind.i64.wrap (a0 - kp + kp) = a0 := by rw [IntWalk.i64_in _ (by omega)]; omega
        go_wp2_with fail
        go_ret
        exact ⟨rfl, HB.out⟩
set_option maxRecDepth 100000 in
theorem lifted (os : Os) (started : os.Started) (H : Type) (enc : TypeId × Value → H) :
    ReturnsInHanded {} Tryz.checked os 7 .any (Rows.fnBonusesSpec.pre6 enc Tryz.prog Tryz.f7 Rows.fnBonusesRow.domain false) (Rows.fnBonusesSpec.post enc Tryz.prog Tryz.f7 false true false false) := by
  refine law_lifted os started H enc 4 (by kernel_rfl) Tryz.func7
    (ChangeSpec.witness6 (enc := enc) (C := Tryz.checked) false ⟨#[], #[.slice none 0 0], []⟩ 8 (by kernel_rfl) (by kernel_rfl) (by kernel_rfl) (by kernel_rfl)) rfl rfl Tryz.underlying4
    (by rw [Tryz.params7]; simp only [List.forall_mem_cons]; exact ⟨⟨by kernel_rfl, of_decide_eq_true (by kernel_rfl)⟩, by simp⟩) (fun ds hl => by
      match ds, hl with
      | [d0], _ => rfl) ?_
  intro W base args ds p hval hA
  rw [Tryz.params7] at hA hval
  obtain ⟨v0, vs0, d0, ds0, p0, q0, hargs, rfl, rfl, h0, rr0⟩ := trodAll_cons hA
  obtain ⟨rfl, rfl, rfl⟩ := trodAll_nil rr0
  obtain rfl : args = #[v0] := by cases args; simp_all
  obtain ⟨A0, n0, c0, rfl⟩ := okWide_slice Tryz.underlying22 (hval 0 22 v0 rfl rfl)
  obtain ⟨fu0, ho0⟩ := h0
  obtain ⟨bs, hbl, hby, hRd, hnm⟩ := open_code Tryz.underlying22 Tryz.underlying5 (by kernel_rfl) ho0
  exact walk ⟨A0, n0, c0, bs⟩ hbl hby hnm W hRd
theorem proved : Rows.FnBonusesSaid :=
  OpenClaim.holds_of_wide 7 Tryz.f7 rfl rfl rfl rfl rfl rfl rfl ⟨rfl, rfl, rfl, rfl, rfl⟩ rfl rfl rfl rfl rfl (by kernel_rfl) Tryz.func7 (by kernel_rfl)
    (of_decide_eq_true (by kernel_rfl)) (by unfold Func.isWrapper; first | (rw [if_pos (by decide +kernel)]; kernel_rfl) | (rw [if_neg (by decide +kernel)]; exact ⟨rfl, rfl⟩))
    (fun os started H enc _ => lifted os started H enc)
end fnBonuses
end Go.Proofs.YtbjdbpdgacfcpaaGreat
