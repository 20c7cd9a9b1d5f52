/- The law on kept years and on the best year of leaving: the price of the kept years is at most the surrender value, and leaving is best when it is told. No condition. -/
import Derived.Test.YtbjdbpdgacfcpaaK0
import Derived.Test.YtbjdbpdgacfcpaaK1
import Derived.Test.YtbjdbpdgacfcpaaK13
import Derived.Test.YtbjdbpdgacfcpaaK15
import Derived.Test.YtbjdbpdgacfcpaaK16
import Derived.Test.YtbjdbpdgacfcpaaK17
import Derived.Test.YtbjdbpdgacfcpaaK18
import Derived.Test.YtbjdbpdgacfcpaaK19
namespace Go.Proofs.Ytbjdbpdgacfcpaa
open Go.ChangeShapes Go.WideShapes Go.ChangeAt Go.RowKit Go.Deep
namespace fnKeptYears
set_option maxRecDepth 100000 in
set_option maxHeartbeats 8000000 in
theorem walk (K : Code) (hlen : K.bs.length = K.n) (hbyte : ∀ x ∈ K.bs, 0 ≤ x ∧ x ≤ 255) (hmax : K.n ≤ 9223372036854775807) (w : World) (hX : Rd w w.heap.size K.A 1 (byteRows K.bs)) :
    Calls Try.prog 6 #[.slice K.A K.n K.c] w fun e w' => e = .returned (.bool true) ∧ Below w.heap.size w w' := by
  by_cases hbig : 4096 < K.n
  · have hd : decide (4096 < K.n) = true := by simpa using hbig
    clear hX hbyte hlen
    go_enter Try.func6, Try.ntmps6
    go_wp2_with (go_at_call 8; refine (laws_big_any K.A K.n K.c _ (by omega)).mono ?_; rw [hd]; rintro e w' ⟨rfl, rfl⟩)
    go_ret
    exact ⟨rfl, Below.refl _ _⟩
  have hd : decide (4096 < K.n) = false := by simpa using hbig
  have hK : K.Ok := ⟨hlen, by omega, hbyte⟩
  have HH := Lib.hid ((Held.nil w).snoc hX)
  have HB := Lib.hid (Below.refl w.heap.size w)
  clear hX hbyte hlen hbig
  go_enter Try.func6, Try.ntmps6
  go_wp2_with (go_at_call 8; refine (laws_big_any K.A K.n K.c _ (by omega)).mono ?_; rw [hd]; rintro e w' ⟨rfl, rfl⟩)
  refine (spec_DrawKeptYears_any K hK _ (HH.out.get 0 rfl)).mono ?_
  rintro e w1 ⟨b0, A0, n0, c0, p0, k0, rfl, hP, ⟨hk0a, hk0b⟩, hb⟩
  have HF0 := Lib.hid (BF.of hP.liv hP.sm)
  have hp0 : p0.fits := hP.ps.fits
  have HDW0 := Lib.hid (PD_durW hP.sm hP.ps)
  have hk0 : In64 k0 := in64_lt (by omega)
  replace HB := Lib.hid (below_all HB.out hb)
  replace HH := Lib.hid ((HH.out.past hb).cons hP.liv.rd)
  clear hb
  clear hP
  obtain ⟨hb, hr0, hr1⟩ := box2 (w := w1) (tx := 28) (ty := 35) (X := [.int .i64 b0.first, .slice A0 n0 c0, .int .i64 b0.rate]) (Y := [.int .i64 p0.kind, .int .i64 p0.age, .int .i64 p0.years, .int .i64 p0.sum, .int .i64 p0.load])
  replace HB := Lib.hid (below_all HB.out hb)
  replace HH := Lib.hid (((HH.out.past hb).cons hr0).cons hr1)
  clear hb hr0 hr1
  have HL_bx0 := Lib.hid (Rd.box (HH.out.get 1 rfl))
  have HL_px0 := Lib.hid (Rd.box (HH.out.get 0 rfl))
  go_wp2_with (first | (refine wpList_load_agg rfl 28 _ rfl ⟨w1.heap.size, 0, none⟩ rfl [.int .i64 b0.first, .slice A0 n0 c0, .int .i64 b0.rate] HL_bx0.out _ Try.underlying28 rfl Bas.size ?_) | (refine wpList_load_agg rfl 35 _ rfl ⟨w1.heap.size + 1, 0, none⟩ rfl [.int .i64 p0.kind, .int .i64 p0.age, .int .i64 p0.years, .int .i64 p0.sum, .int .i64 p0.load] HL_px0.out _ Try.underlying35 rfl Policy.size ?_))
  clear HL_bx0 HL_px0
  generalize ((w1.alloc (.cells #[.int .i64 b0.first, .slice A0 n0 c0, .int .i64 b0.rate] 28)).alloc (.cells #[.int .i64 p0.kind, .int .i64 p0.age, .int .i64 p0.years, .int .i64 p0.sum, .int .i64 p0.load] 35)) = v0 at HB HH ⊢
  generalize w1.heap.size + 1 = g0_1 at HH ⊢
  generalize w1.heap.size = g0_0 at HH ⊢
  refine (impl_KeptYears_any b0 A0 n0 c0 p0 k0 _ (HF0.out.basT (HH.out.get 2 rfl)) hp0 hk0).mono ?_
  rintro e w2 ⟨rfl, hb⟩
  replace HB := Lib.hid (below_all HB.out hb)
  replace HH := Lib.hid (HH.out.past hb)
  clear hb
  have HL_bx0 := Lib.hid (Rd.box (HH.out.get 1 rfl))
  have HL_px0 := Lib.hid (Rd.box (HH.out.get 0 rfl))
  go_wp2_with (first | (refine wpList_load_agg rfl 28 _ rfl ⟨g0_0, 0, none⟩ rfl [.int .i64 b0.first, .slice A0 n0 c0, .int .i64 b0.rate] HL_bx0.out _ Try.underlying28 rfl Bas.size ?_) | (refine wpList_load_agg rfl 35 _ rfl ⟨g0_1, 0, none⟩ rfl [.int .i64 p0.kind, .int .i64 p0.age, .int .i64 p0.years, .int .i64 p0.sum, .int .i64 p0.load] HL_px0.out _ Try.underlying35 rfl Policy.size ?_))
  clear HL_bx0 HL_px0
  refine (spec_KeptYears_any b0 A0 n0 c0 p0 k0 _ (HF0.out.basT (HH.out.get 2 rfl)) hp0 hk0).mono ?_
  rintro e w3 ⟨rfl, hb⟩
  replace HB := Lib.hid (below_all HB.out hb)
  replace HH := Lib.hid (HH.out.past hb)
  clear hb
  go_wp2_with fail
  refine (spec_DrawBestLeaving_any K hK _ (HH.out.get 3 rfl)).mono ?_
  rintro e w4 ⟨b1, A1, n1, c1, p1, rfl, hP, hb⟩
  have HF1 := Lib.hid (BF.of hP.liv hP.sm)
  have hp1 : p1.fits := hP.ps.fits
  have HDW1 := Lib.hid (PD_durW hP.sm hP.ps)
  replace HB := Lib.hid (below_all HB.out hb)
  replace HH := Lib.hid ((HH.out.past hb).cons hP.liv.rd)
  clear hb
  clear hP
  obtain ⟨hb, hr0, hr1⟩ := box2 (w := w4) (tx := 28) (ty := 35) (X := [.int .i64 b1.first, .slice A1 n1 c1, .int .i64 b1.rate]) (Y := [.int .i64 p1.kind, .int .i64 p1.age, .int .i64 p1.years, .int .i64 p1.sum, .int .i64 p1.load])
  replace HB := Lib.hid (below_all HB.out hb)
  replace HH := Lib.hid (((HH.out.past hb).cons hr0).cons hr1)
  clear hb hr0 hr1
  have HL_bx1 := Lib.hid (Rd.box (HH.out.get 1 rfl))
  have HL_px1 := Lib.hid (Rd.box (HH.out.get 0 rfl))
  go_wp2_with (first | (refine wpList_load_agg rfl 28 _ rfl ⟨w4.heap.size, 0, none⟩ rfl [.int .i64 b1.first, .slice A1 n1 c1, .int .i64 b1.rate] HL_bx1.out _ Try.underlying28 rfl Bas.size ?_) | (refine wpList_load_agg rfl 35 _ rfl ⟨w4.heap.size + 1, 0, none⟩ rfl [.int .i64 p1.kind, .int .i64 p1.age, .int .i64 p1.years, .int .i64 p1.sum, .int .i64 p1.load] HL_px1.out _ Try.underlying35 rfl Policy.size ?_))
  clear HL_bx1 HL_px1
  generalize ((w4.alloc (.cells #[.int .i64 b1.first, .slice A1 n1 c1, .int .i64 b1.rate] 28)).alloc (.cells #[.int .i64 p1.kind, .int .i64 p1.age, .int .i64 p1.years, .int .i64 p1.sum, .int .i64 p1.load] 35)) = v1 at HB HH ⊢
  generalize w4.heap.size + 1 = g1_1 at HH ⊢
  generalize w4.heap.size = g1_0 at HH ⊢
  refine (impl_BestLeaving_any b1 A1 n1 c1 p1 _ (HF1.out.basT (HH.out.get 2 rfl)) hp1).mono ?_
  rintro e w5 ⟨rfl, hb⟩
  replace HB := Lib.hid (below_all HB.out hb)
  replace HH := Lib.hid (HH.out.past hb)
  clear hb
  have HL_bx1 := Lib.hid (Rd.box (HH.out.get 1 rfl))
  have HL_px1 := Lib.hid (Rd.box (HH.out.get 0 rfl))
  go_wp2_with (first | (refine wpList_load_agg rfl 28 _ rfl ⟨g1_0, 0, none⟩ rfl [.int .i64 b1.first, .slice A1 n1 c1, .int .i64 b1.rate] HL_bx1.out _ Try.underlying28 rfl Bas.size ?_) | (refine wpList_load_agg rfl 35 _ rfl ⟨g1_1, 0, none⟩ rfl [.int .i64 p1.kind, .int .i64 p1.age, .int .i64 p1.years, .int .i64 p1.sum, .int .i64 p1.load] HL_px1.out _ Try.underlying35 rfl Policy.size ?_))
  clear HL_bx1 HL_px1
  refine (spec_BestLeaving_any b1 A1 n1 c1 p1 _ (HF1.out.basT (HH.out.get 2 rfl)) hp1).mono ?_
  rintro e w6 ⟨rfl, hb⟩
  replace HB := Lib.hid (below_all HB.out hb)
  replace HH := Lib.hid (HH.out.past hb)
  clear hb
  clear hd hmax hK HDW0 HDW1
  cases hcf : ((bestP b1 p1).2.2 == 0)
  · skip
    cases hcd : ((keptYP b0 p0 k0).2 == 0)
    · skip
      have hcd2 : ((keptYP b0 p0 k0).2 != 0) = true := by simpa [bne] using hcd
      go_wp2_with fail
      go_ret
      exact ⟨rfl, HB.out⟩
    · skip
      have hcd2 : ((keptYP b0 p0 k0).2 != 0) = false := by simpa [bne] using hcd
      cases hmz : ((keptYP b0 p0 k0).1 == 0)
      · skip
        obtain ⟨v, m, g1, g2, ⟨m0, m1⟩, ⟨l0, l1⟩, ⟨a0, a1⟩, g3, g4, g5, g6⟩ := kept_good (show (keptYP b0 p0 k0).2 = 0 by simpa using hcd) (show ¬ (keptYP b0 p0 k0).1 = 0 by simpa using hmz)
        have e1 : (keptYP b0 p0 k0).1 = m := by rw [g1]
        rw [e1] at hmz ⊢
        have HG := Lib.hid (And.intro g3 (And.intro g4 g5)); have HG2 := Lib.hid g2
        have hle : decide (priceP b0 1 (p0.age + k0) m p0.sum ≤ v) = true := by simpa using g6
        have HLE := Lib.hid hle
        clear g1 g2 g3 g4 g5 g6 e1 hle
        have HL_bx0 := Lib.hid (Rd.box (HH.out.get 4 rfl))
        have HL_px0 := Lib.hid (Rd.box (HH.out.get 3 rfl))
        go_wp2_with (first | (refine wpList_load_agg rfl 28 _ rfl ⟨g0_0, 0, none⟩ rfl [.int .i64 b0.first, .slice A0 n0 c0, .int .i64 b0.rate] HL_bx0.out _ Try.underlying28 rfl Bas.size ?_) | (refine wpList_load_agg rfl 35 _ rfl ⟨g0_1, 0, none⟩ rfl [.int .i64 p0.kind, .int .i64 p0.age, .int .i64 p0.years, .int .i64 p0.sum, .int .i64 p0.load] HL_px0.out _ Try.underlying35 rfl Policy.size ?_))
        clear HL_bx0 HL_px0
        refine (impl_SurrenderValue_any b0 A0 n0 c0 p0 k0 _ (HF0.out.basT (HH.out.get 5 rfl)) hp0 hk0).mono ?_
        rw [HG2.out]
        rintro e w7 ⟨rfl, hb⟩
        replace HB := Lib.hid (below_all HB.out hb)
        replace HH := Lib.hid (HH.out.past hb)
        clear hb
        have z90 : w7.cell? ⟨g0_0, 0, none⟩ = some (.int .i64 b0.first) := Rd.bcell (HH.out.get 4 rfl) 0 rfl
        have z91 : w7.cell? ⟨g0_0, 1, none⟩ = some (.slice A0 n0 c0) := Rd.bcell (HH.out.get 4 rfl) 1 rfl
        have z92 : w7.cell? ⟨g0_0, 2, none⟩ = some (.int .i64 b0.rate) := Rd.bcell (HH.out.get 4 rfl) 2 rfl
        have q0 : w7.cell? ⟨g0_1, 0, none⟩ = some (.int .i64 p0.kind) := Rd.bcell (HH.out.get 3 rfl) 0 rfl
        have q1 : w7.cell? ⟨g0_1, 1, none⟩ = some (.int .i64 p0.age) := Rd.bcell (HH.out.get 3 rfl) 1 rfl
        have q2 : w7.cell? ⟨g0_1, 2, none⟩ = some (.int .i64 p0.years) := Rd.bcell (HH.out.get 3 rfl) 2 rfl
        have q3 : w7.cell? ⟨g0_1, 3, none⟩ = some (.int .i64 p0.sum) := Rd.bcell (HH.out.get 3 rfl) 3 rfl
        have q4 : w7.cell? ⟨g0_1, 4, none⟩ = some (.int .i64 p0.load) := Rd.bcell (HH.out.get 3 rfl) 4 rfl
        go_wp2_with fail
        refine (impl_AssurancePrice_at b0 A0 n0 c0 1 (p0.age + k0) m p0.sum _ (HF0.out.basT (HH.out.get 5 rfl)) HG.out.1 HG.out.2.1 HG.out.2.2).mono ?_
        rintro e w8 ⟨rfl, hb⟩
        replace HB := Lib.hid (below_all HB.out hb)
        replace HH := Lib.hid (HH.out.past hb)
        clear hb
        have hle := HLE.out
        go_wp2_with fail
        go_ret
        exact ⟨rfl, HB.out⟩
      · skip
        go_wp2_with fail
        go_ret
        exact ⟨rfl, HB.out⟩
  · skip
    obtain ⟨bx, bn, bv, g1, g2, g3, g4, ⟨x0, x1⟩, ⟨v0, v1⟩, ⟨o0, o1⟩, ⟨u0, u1⟩⟩ := best_good (show (bestP b1 p1).2.2 = 0 by simpa using hcf)
    have e1 : (bestP b1 p1).1 = bx := by rw [g1]
    have e2 : (bestP b1 p1).2.1 = bn := by rw [g1]
    rw [e1, e2]
    have hbx : In64 bx := in64_lt (by omega)
    clear e1 e2 g1
    subst g4
    generalize hof : officeP b1 p1 = o1 at *
    have HOF := Lib.hid hof; have HG2 := Lib.hid g2; have HG3 := Lib.hid g3
    clear hof g2 g3
    have HL_bx1 := Lib.hid (Rd.box (HH.out.get 1 rfl))
    have HL_px1 := Lib.hid (Rd.box (HH.out.get 0 rfl))
    go_wp2_with (first | (refine wpList_load_agg rfl 28 _ rfl ⟨g1_0, 0, none⟩ rfl [.int .i64 b1.first, .slice A1 n1 c1, .int .i64 b1.rate] HL_bx1.out _ Try.underlying28 rfl Bas.size ?_) | (refine wpList_load_agg rfl 35 _ rfl ⟨g1_1, 0, none⟩ rfl [.int .i64 p1.kind, .int .i64 p1.age, .int .i64 p1.years, .int .i64 p1.sum, .int .i64 p1.load] HL_px1.out _ Try.underlying35 rfl Policy.size ?_))
    clear HL_bx1 HL_px1
    refine (impl_SurrenderValue_any b1 A1 n1 c1 p1 bx _ (HF1.out.basT (HH.out.get 2 rfl)) hp1 hbx).mono ?_
    rw [HG2.out]
    rintro e w7 ⟨rfl, hb⟩
    replace HB := Lib.hid (below_all HB.out hb)
    replace HH := Lib.hid (HH.out.past hb)
    clear hb
    have HL_bx1 := Lib.hid (Rd.box (HH.out.get 1 rfl))
    have HL_px1 := Lib.hid (Rd.box (HH.out.get 0 rfl))
    go_wp2_with (first | (refine wpList_load_agg rfl 28 _ rfl ⟨g1_0, 0, none⟩ rfl [.int .i64 b1.first, .slice A1 n1 c1, .int .i64 b1.rate] HL_bx1.out _ Try.underlying28 rfl Bas.size ?_) | (refine wpList_load_agg rfl 35 _ rfl ⟨g1_1, 0, none⟩ rfl [.int .i64 p1.kind, .int .i64 p1.age, .int .i64 p1.years, .int .i64 p1.sum, .int .i64 p1.load] HL_px1.out _ Try.underlying35 rfl Policy.size ?_))
    clear HL_bx1 HL_px1
    refine (impl_OfficePremium_any b1 A1 n1 c1 p1 _ (HF1.out.basT (HH.out.get 2 rfl)) hp1).mono ?_
    rw [if_pos HG3.out, if_pos HG3.out, HOF.out]
    rintro e w8 ⟨rfl, hb⟩
    replace HB := Lib.hid (below_all HB.out hb)
    replace HH := Lib.hid (HH.out.past hb)
    clear hb
    cases hcd : ((keptYP b0 p0 k0).2 == 0)
    · skip
      have hcd2 : ((keptYP b0 p0 k0).2 != 0) = true := by simpa [bne] using hcd
      go_wp2_with fail
      go_ret
      exact ⟨rfl, HB.out⟩
    · skip
      have hcd2 : ((keptYP b0 p0 k0).2 != 0) = false := by simpa [bne] using hcd
      cases hmz : ((keptYP b0 p0 k0).1 == 0)
      · skip
        obtain ⟨v, m, g1, g2, ⟨m0, m1⟩, ⟨l0, l1⟩, ⟨a0, a1⟩, g3, g4, g5, g6⟩ := kept_good (show (keptYP b0 p0 k0).2 = 0 by simpa using hcd) (show ¬ (keptYP b0 p0 k0).1 = 0 by simpa using hmz)
        have e1 : (keptYP b0 p0 k0).1 = m := by rw [g1]
        rw [e1] at hmz ⊢
        have HG := Lib.hid (And.intro g3 (And.intro g4 g5)); have HG2 := Lib.hid g2
        have hle : decide (priceP b0 1 (p0.age + k0) m p0.sum ≤ v) = true := by simpa using g6
        have HLE := Lib.hid hle
        clear g1 g2 g3 g4 g5 g6 e1 hle
        have HL_bx0 := Lib.hid (Rd.box (HH.out.get 4 rfl))
        have HL_px0 := Lib.hid (Rd.box (HH.out.get 3 rfl))
        go_wp2_with (first | (refine wpList_load_agg rfl 28 _ rfl ⟨g0_0, 0, none⟩ rfl [.int .i64 b0.first, .slice A0 n0 c0, .int .i64 b0.rate] HL_bx0.out _ Try.underlying28 rfl Bas.size ?_) | (refine wpList_load_agg rfl 35 _ rfl ⟨g0_1, 0, none⟩ rfl [.int .i64 p0.kind, .int .i64 p0.age, .int .i64 p0.years, .int .i64 p0.sum, .int .i64 p0.load] HL_px0.out _ Try.underlying35 rfl Policy.size ?_))
        clear HL_bx0 HL_px0
        refine (impl_SurrenderValue_any b0 A0 n0 c0 p0 k0 _ (HF0.out.basT (HH.out.get 5 rfl)) hp0 hk0).mono ?_
        rw [HG2.out]
        rintro e w9 ⟨rfl, hb⟩
        replace HB := Lib.hid (below_all HB.out hb)
        replace HH := Lib.hid (HH.out.past hb)
        clear hb
        have z90 : w9.cell? ⟨g0_0, 0, none⟩ = some (.int .i64 b0.first) := Rd.bcell (HH.out.get 4 rfl) 0 rfl
        have z91 : w9.cell? ⟨g0_0, 1, none⟩ = some (.slice A0 n0 c0) := Rd.bcell (HH.out.get 4 rfl) 1 rfl
        have z92 : w9.cell? ⟨g0_0, 2, none⟩ = some (.int .i64 b0.rate) := Rd.bcell (HH.out.get 4 rfl) 2 rfl
        have q0 : w9.cell? ⟨g0_1, 0, none⟩ = some (.int .i64 p0.kind) := Rd.bcell (HH.out.get 3 rfl) 0 rfl
        have q1 : w9.cell? ⟨g0_1, 1, none⟩ = some (.int .i64 p0.age) := Rd.bcell (HH.out.get 3 rfl) 1 rfl
        have q2 : w9.cell? ⟨g0_1, 2, none⟩ = some (.int .i64 p0.years) := Rd.bcell (HH.out.get 3 rfl) 2 rfl
        have q3 : w9.cell? ⟨g0_1, 3, none⟩ = some (.int .i64 p0.sum) := Rd.bcell (HH.out.get 3 rfl) 3 rfl
        have q4 : w9.cell? ⟨g0_1, 4, none⟩ = some (.int .i64 p0.load) := Rd.bcell (HH.out.get 3 rfl) 4 rfl
        go_wp2_with fail
        refine (impl_AssurancePrice_at b0 A0 n0 c0 1 (p0.age + k0) m p0.sum _ (HF0.out.basT (HH.out.get 5 rfl)) HG.out.1 HG.out.2.1 HG.out.2.2).mono ?_
        rintro e w10 ⟨rfl, hb⟩
        replace HB := Lib.hid (below_all HB.out hb)
        replace HH := Lib.hid (HH.out.past hb)
        clear hb
        have hle := HLE.out
        go_wp2_with fail
        go_ret
        exact ⟨rfl, HB.out⟩
      · skip
        go_wp2_with fail
        go_ret
        exact ⟨rfl, HB.out⟩
set_option maxRecDepth 100000 in
theorem lifted (os : Os) (started : os.Started) (H : Type) (enc : TypeId × Value → H) :
    ReturnsInHanded {} Try.checked os 6 .any (Rows.fnKeptYearsSpec.pre6 enc Try.prog Try.f6 Rows.fnKeptYearsRow.domain false) (Rows.fnKeptYearsSpec.post enc Try.prog Try.f6 false true false false) := by
  refine law_lifted os started H enc 4 (by kernel_rfl) Try.func6
    (ChangeSpec.witness6 (enc := enc) (C := Try.checked) false ⟨#[], #[.slice none 0 0], []⟩ 8 (by kernel_rfl) (by kernel_rfl) (by kernel_rfl) (by kernel_rfl)) rfl rfl Try.underlying4
    (by rw [Try.params6]; simp only [List.forall_mem_cons]; exact ⟨⟨by kernel_rfl, of_decide_eq_true (by kernel_rfl)⟩, by simp⟩) (fun ds hl => by
      match ds, hl with
      | [d0], _ => rfl) ?_
  intro W base args ds p hval hA
  rw [Try.params6] at hA hval
  obtain ⟨v0, vs0, d0, ds0, p0, q0, hargs, rfl, rfl, h0, rr0⟩ := trodAll_cons hA
  obtain ⟨rfl, rfl, rfl⟩ := trodAll_nil rr0
  obtain rfl : args = #[v0] := by cases args; simp_all
  obtain ⟨A0, n0, c0, rfl⟩ := okWide_slice Try.underlying22 (hval 0 22 v0 rfl rfl)
  obtain ⟨fu0, ho0⟩ := h0
  obtain ⟨bs, hbl, hby, hRd, hnm⟩ := open_code Try.underlying22 Try.underlying5 (by kernel_rfl) ho0
  exact walk ⟨A0, n0, c0, bs⟩ hbl hby hnm W hRd
theorem proved : Rows.FnKeptYearsSaid :=
  OpenClaim.holds_of_wide 6 Try.f6 rfl rfl rfl rfl rfl rfl rfl ⟨rfl, rfl, rfl, rfl, rfl⟩ rfl rfl rfl rfl rfl (by kernel_rfl) Try.func6 (by kernel_rfl)
    (of_decide_eq_true (by kernel_rfl)) (by unfold Func.isWrapper; first | (rw [if_pos (by decide +kernel)]; kernel_rfl) | (rw [if_neg (by decide +kernel)]; exact ⟨rfl, rfl⟩))
    (fun os started H enc _ => lifted os started H enc)
end fnKeptYears
end Go.Proofs.Ytbjdbpdgacfcpaa
