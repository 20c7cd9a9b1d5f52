/- The law on leaving: a surrender value is never more than the reserve, and a paid-up sum is paid for by it. No condition. -/
import Derived.Test.YtbjdbpdgacfcpaaK0
import Derived.Test.YtbjdbpdgacfcpaaK1
import Derived.Test.YtbjdbpdgacfcpaaK13
import Derived.Test.YtbjdbpdgacfcpaaK15
import Derived.Test.YtbjdbpdgacfcpaaK16
import Derived.Test.YtbjdbpdgacfcpaaK17
import Derived.Test.YtbjdbpdgacfcpaaK18
namespace Go.Proofs.Ytbjdbpdgacfcpaa
open Go.ChangeShapes Go.WideShapes Go.ChangeAt Go.RowKit Go.Deep
namespace fnLeaving
set_option maxRecDepth 100000 in
set_option maxHeartbeats 8000000 in
theorem walk (K : Code) (hlen : K.bs.length = K.n) (hbyte : ∀ x ∈ K.bs, 0 ≤ x ∧ x ≤ 255) (hmax : K.n ≤ 9223372036854775807) (w : World) (hX : Rd w w.heap.size K.A 1 (byteRows K.bs)) :
    Calls Try.prog 5 #[.slice K.A K.n K.c] w fun e w' => e = .returned (.bool true) ∧ Below w.heap.size w w' := by
  by_cases hbig : 4096 < K.n
  · have hd : decide (4096 < K.n) = true := by simpa using hbig
    clear hX hbyte hlen
    go_enter Try.func5, Try.ntmps5
    go_wp2_with (go_at_call 8; refine (laws_big_any K.A K.n K.c _ (by omega)).mono ?_; rw [hd]; rintro e w' ⟨rfl, rfl⟩)
    go_ret
    exact ⟨rfl, Below.refl _ _⟩
  have hd : decide (4096 < K.n) = false := by simpa using hbig
  have hK : K.Ok := ⟨hlen, by omega, hbyte⟩
  have HH := Lib.hid ((Held.nil w).snoc hX)
  have HB := Lib.hid (Below.refl w.heap.size w)
  clear hX hbyte hlen hbig
  go_enter Try.func5, Try.ntmps5
  go_wp2_with (go_at_call 8; refine (laws_big_any K.A K.n K.c _ (by omega)).mono ?_; rw [hd]; rintro e w' ⟨rfl, rfl⟩)
  refine (spec_DrawPaidUpSum_any K hK _ (HH.out.get 0 rfl)).mono ?_
  rintro e w1 ⟨b0, A0, n0, c0, p0, k0, rfl, hP, ⟨hk0a, hk0b⟩, hb⟩
  have HF0 := Lib.hid (BF.of hP.liv hP.sm)
  have hp0 : p0.fits := hP.ps.fits
  have HDW0 := Lib.hid (PD_durW hP.sm hP.ps)
  have hk0 : In64 k0 := in64_lt (by omega)
  replace HB := Lib.hid (below_all HB.out hb)
  replace HH := Lib.hid ((HH.out.past hb).cons hP.liv.rd)
  clear hb
  clear hP
  obtain ⟨hb, hr0, hr1⟩ := box2 (w := w1) (tx := 28) (ty := 35) (X := [.int .i64 b0.first, .slice A0 n0 c0, .int .i64 b0.rate]) (Y := [.int .i64 p0.kind, .int .i64 p0.age, .int .i64 p0.years, .int .i64 p0.sum, .int .i64 p0.load])
  replace HB := Lib.hid (below_all HB.out hb)
  replace HH := Lib.hid (((HH.out.past hb).cons hr0).cons hr1)
  clear hb hr0 hr1
  have HL_bx0 := Lib.hid (Rd.box (HH.out.get 1 rfl))
  have HL_px0 := Lib.hid (Rd.box (HH.out.get 0 rfl))
  go_wp2_with (first | (refine wpList_load_agg rfl 28 _ rfl ⟨w1.heap.size, 0, none⟩ rfl [.int .i64 b0.first, .slice A0 n0 c0, .int .i64 b0.rate] HL_bx0.out _ Try.underlying28 rfl Bas.size ?_) | (refine wpList_load_agg rfl 35 _ rfl ⟨w1.heap.size + 1, 0, none⟩ rfl [.int .i64 p0.kind, .int .i64 p0.age, .int .i64 p0.years, .int .i64 p0.sum, .int .i64 p0.load] HL_px0.out _ Try.underlying35 rfl Policy.size ?_))
  clear HL_bx0 HL_px0
  generalize ((w1.alloc (.cells #[.int .i64 b0.first, .slice A0 n0 c0, .int .i64 b0.rate] 28)).alloc (.cells #[.int .i64 p0.kind, .int .i64 p0.age, .int .i64 p0.years, .int .i64 p0.sum, .int .i64 p0.load] 35)) = v0 at HB HH ⊢
  generalize w1.heap.size + 1 = g0_1 at HH ⊢
  generalize w1.heap.size = g0_0 at HH ⊢
  refine (impl_PaidUpSum_any b0 A0 n0 c0 p0 k0 _ (HF0.out.basT (HH.out.get 2 rfl)) hp0 hk0).mono ?_
  rintro e w2 ⟨rfl, hb⟩
  replace HB := Lib.hid (below_all HB.out hb)
  replace HH := Lib.hid (HH.out.past hb)
  clear hb
  have HL_bx0 := Lib.hid (Rd.box (HH.out.get 1 rfl))
  have HL_px0 := Lib.hid (Rd.box (HH.out.get 0 rfl))
  go_wp2_with (first | (refine wpList_load_agg rfl 28 _ rfl ⟨g0_0, 0, none⟩ rfl [.int .i64 b0.first, .slice A0 n0 c0, .int .i64 b0.rate] HL_bx0.out _ Try.underlying28 rfl Bas.size ?_) | (refine wpList_load_agg rfl 35 _ rfl ⟨g0_1, 0, none⟩ rfl [.int .i64 p0.kind, .int .i64 p0.age, .int .i64 p0.years, .int .i64 p0.sum, .int .i64 p0.load] HL_px0.out _ Try.underlying35 rfl Policy.size ?_))
  clear HL_bx0 HL_px0
  refine (spec_PaidUpSum_any b0 A0 n0 c0 p0 k0 _ (HF0.out.basT (HH.out.get 2 rfl)) hp0 hk0).mono ?_
  rintro e w3 ⟨rfl, hb⟩
  replace HB := Lib.hid (below_all HB.out hb)
  replace HH := Lib.hid (HH.out.past hb)
  clear hb
  have HL_bx0 := Lib.hid (Rd.box (HH.out.get 1 rfl))
  have HL_px0 := Lib.hid (Rd.box (HH.out.get 0 rfl))
  go_wp2_with (first | (refine wpList_load_agg rfl 28 _ rfl ⟨g0_0, 0, none⟩ rfl [.int .i64 b0.first, .slice A0 n0 c0, .int .i64 b0.rate] HL_bx0.out _ Try.underlying28 rfl Bas.size ?_) | (refine wpList_load_agg rfl 35 _ rfl ⟨g0_1, 0, none⟩ rfl [.int .i64 p0.kind, .int .i64 p0.age, .int .i64 p0.years, .int .i64 p0.sum, .int .i64 p0.load] HL_px0.out _ Try.underlying35 rfl Policy.size ?_))
  clear HL_bx0 HL_px0
  refine (impl_SurrenderValue_any b0 A0 n0 c0 p0 k0 _ (HF0.out.basT (HH.out.get 2 rfl)) hp0 hk0).mono ?_
  rintro e w4 ⟨rfl, hb⟩
  replace HB := Lib.hid (below_all HB.out hb)
  replace HH := Lib.hid (HH.out.past hb)
  clear hb
  have HL_bx0 := Lib.hid (Rd.box (HH.out.get 1 rfl))
  have HL_px0 := Lib.hid (Rd.box (HH.out.get 0 rfl))
  go_wp2_with (first | (refine wpList_load_agg rfl 28 _ rfl ⟨g0_0, 0, none⟩ rfl [.int .i64 b0.first, .slice A0 n0 c0, .int .i64 b0.rate] HL_bx0.out _ Try.underlying28 rfl Bas.size ?_) | (refine wpList_load_agg rfl 35 _ rfl ⟨g0_1, 0, none⟩ rfl [.int .i64 p0.kind, .int .i64 p0.age, .int .i64 p0.years, .int .i64 p0.sum, .int .i64 p0.load] HL_px0.out _ Try.underlying35 rfl Policy.size ?_))
  clear HL_bx0 HL_px0
  refine (spec_SurrenderValue_any b0 A0 n0 c0 p0 k0 _ (HF0.out.basT (HH.out.get 2 rfl)) hp0 hk0).mono ?_
  rintro e w5 ⟨rfl, hb⟩
  replace HB := Lib.hid (below_all HB.out hb)
  replace HH := Lib.hid (HH.out.past hb)
  clear hb
  have HL_bx0 := Lib.hid (Rd.box (HH.out.get 1 rfl))
  have HL_px0 := Lib.hid (Rd.box (HH.out.get 0 rfl))
  go_wp2_with (first | (refine wpList_load_agg rfl 28 _ rfl ⟨g0_0, 0, none⟩ rfl [.int .i64 b0.first, .slice A0 n0 c0, .int .i64 b0.rate] HL_bx0.out _ Try.underlying28 rfl Bas.size ?_) | (refine wpList_load_agg rfl 35 _ rfl ⟨g0_1, 0, none⟩ rfl [.int .i64 p0.kind, .int .i64 p0.age, .int .i64 p0.years, .int .i64 p0.sum, .int .i64 p0.load] HL_px0.out _ Try.underlying35 rfl Policy.size ?_))
  clear HL_bx0 HL_px0
  refine (impl_LeavingLoss_any b0 A0 n0 c0 p0 k0 _ (HF0.out.basT (HH.out.get 2 rfl)) hp0 hk0).mono ?_
  rintro e w6 ⟨rfl, hb⟩
  replace HB := Lib.hid (below_all HB.out hb)
  replace HH := Lib.hid (HH.out.past hb)
  clear hb
  have HL_bx0 := Lib.hid (Rd.box (HH.out.get 1 rfl))
  have HL_px0 := Lib.hid (Rd.box (HH.out.get 0 rfl))
  go_wp2_with (first | (refine wpList_load_agg rfl 28 _ rfl ⟨g0_0, 0, none⟩ rfl [.int .i64 b0.first, .slice A0 n0 c0, .int .i64 b0.rate] HL_bx0.out _ Try.underlying28 rfl Bas.size ?_) | (refine wpList_load_agg rfl 35 _ rfl ⟨g0_1, 0, none⟩ rfl [.int .i64 p0.kind, .int .i64 p0.age, .int .i64 p0.years, .int .i64 p0.sum, .int .i64 p0.load] HL_px0.out _ Try.underlying35 rfl Policy.size ?_))
  clear HL_bx0 HL_px0
  refine (spec_LeavingLoss_any b0 A0 n0 c0 p0 k0 _ (HF0.out.basT (HH.out.get 2 rfl)) hp0 hk0).mono ?_
  rintro e w7 ⟨rfl, hb⟩
  replace HB := Lib.hid (below_all HB.out hb)
  replace HH := Lib.hid (HH.out.past hb)
  clear hb
  have HL_bx0 := Lib.hid (Rd.box (HH.out.get 1 rfl))
  have HL_px0 := Lib.hid (Rd.box (HH.out.get 0 rfl))
  go_wp2_with (first | (refine wpList_load_agg rfl 28 _ rfl ⟨g0_0, 0, none⟩ rfl [.int .i64 b0.first, .slice A0 n0 c0, .int .i64 b0.rate] HL_bx0.out _ Try.underlying28 rfl Bas.size ?_) | (refine wpList_load_agg rfl 35 _ rfl ⟨g0_1, 0, none⟩ rfl [.int .i64 p0.kind, .int .i64 p0.age, .int .i64 p0.years, .int .i64 p0.sum, .int .i64 p0.load] HL_px0.out _ Try.underlying35 rfl Policy.size ?_))
  clear HL_bx0 HL_px0
  refine (impl_LoanLimit_any b0 A0 n0 c0 p0 k0 _ (HF0.out.basT (HH.out.get 2 rfl)) hp0 hk0).mono ?_
  rintro e w8 ⟨rfl, hb⟩
  replace HB := Lib.hid (below_all HB.out hb)
  replace HH := Lib.hid (HH.out.past hb)
  clear hb
  have HL_bx0 := Lib.hid (Rd.box (HH.out.get 1 rfl))
  have HL_px0 := Lib.hid (Rd.box (HH.out.get 0 rfl))
  go_wp2_with (first | (refine wpList_load_agg rfl 28 _ rfl ⟨g0_0, 0, none⟩ rfl [.int .i64 b0.first, .slice A0 n0 c0, .int .i64 b0.rate] HL_bx0.out _ Try.underlying28 rfl Bas.size ?_) | (refine wpList_load_agg rfl 35 _ rfl ⟨g0_1, 0, none⟩ rfl [.int .i64 p0.kind, .int .i64 p0.age, .int .i64 p0.years, .int .i64 p0.sum, .int .i64 p0.load] HL_px0.out _ Try.underlying35 rfl Policy.size ?_))
  clear HL_bx0 HL_px0
  refine (spec_LoanLimit_any b0 A0 n0 c0 p0 k0 _ (HF0.out.basT (HH.out.get 2 rfl)) hp0 hk0).mono ?_
  rintro e w9 ⟨rfl, hb⟩
  replace HB := Lib.hid (below_all HB.out hb)
  replace HH := Lib.hid (HH.out.past hb)
  clear hb
  clear hd hmax hK HDW0
  cases hcd : ((paidUpP b0 p0 k0).2 == 0)
  · skip
    have hcd2 : ((paidUpP b0 p0 k0).2 != 0) = true := by simpa [bne] using hcd
    obtain ⟨v1, v2, v3⟩ := leav_codes b0 p0 k0
    rw [v1, v2, v3]
    clear v1 v2 v3
    go_wp2_with fail
    go_ret
    exact ⟨rfl, HB.out⟩
  · skip
    have hcd2 : ((paidUpP b0 p0 k0).2 != 0) = false := by simpa [bne] using hcd
    obtain ⟨v1, v2, v3⟩ := leav_codes b0 p0 k0
    rw [v1, v2, v3]
    clear v1 v2 v3
    obtain ⟨v, l, o, s, g1, g2, g3, g4, ⟨v0, v1⟩, ⟨l0, l1⟩, g5, g6, ⟨s0, s1⟩, s2, ⟨y0, y1⟩, ⟨a0, a1⟩, ⟨n0', n1'⟩, g7⟩ := leaving_good (show (paidUpP b0 p0 k0).2 = 0 by simpa using hcd)
    have e1 : (surP b0 p0 k0).1 = v := by rw [g1]
    have e2 : (lossP b0 p0 k0).1 = l := by rw [g2]
    have e3 : (loanP b0 p0 k0).1 = o := by rw [g3]
    have e4 : (paidUpP b0 p0 k0).1 = s := by rw [g4]
    rw [e1, e2, e3, e4]
    have HG7 := Lib.hid g7
    clear e1 e2 e3 e4 g1 g2 g3 g4 g7
    have z0 : decide (0 ≤ v) = true := by simpa using v0
    have z1 : decide (0 ≤ l) = true := by simpa using l0
    have z2 : decide (1000 * v ≤ 900 * (v + l)) = true := by simpa using g5
    have z3 : decide (o ≤ v) = true := by simpa using g6
    have z4 : decide (0 ≤ s) = true := by simpa using s0
    have z5 : decide (s ≤ p0.sum) = true := by simpa using s1
    cases hk : (p0.kind == 0)
    · skip
      have HL := Lib.hid (show leftP p0 k0 = p0.years - k0 by unfold leftP; exact if_neg (show ¬ p0.kind = 0 by simpa using hk))
      by_cases hs : 0 < s
      · skip
        obtain ⟨g1, g2, g3, g4⟩ := HG7.out (by omega)
        rw [HL.out] at g2 g4
        have hs' : decide (0 < s) = true := by simpa using hs
        generalize hpr : priceP b0 p0.kind (p0.age + k0) (p0.years - k0) s = pr at g4
        have HG := Lib.hid (And.intro g1 (And.intro g2 g3)); have HPR := Lib.hid hpr
        have h9 : decide (v < pr) = false := by simp; omega
        clear hpr g1 g2 g3
        have z90 : w9.cell? ⟨g0_0, 0, none⟩ = some (.int .i64 b0.first) := Rd.bcell (HH.out.get 1 rfl) 0 rfl
        have z91 : w9.cell? ⟨g0_0, 1, none⟩ = some (.slice A0 n0 c0) := Rd.bcell (HH.out.get 1 rfl) 1 rfl
        have z92 : w9.cell? ⟨g0_0, 2, none⟩ = some (.int .i64 b0.rate) := Rd.bcell (HH.out.get 1 rfl) 2 rfl
        have q0 : w9.cell? ⟨g0_1, 0, none⟩ = some (.int .i64 p0.kind) := Rd.bcell (HH.out.get 0 rfl) 0 rfl
        have q1 : w9.cell? ⟨g0_1, 1, none⟩ = some (.int .i64 p0.age) := Rd.bcell (HH.out.get 0 rfl) 1 rfl
        have q2 : w9.cell? ⟨g0_1, 2, none⟩ = some (.int .i64 p0.years) := Rd.bcell (HH.out.get 0 rfl) 2 rfl
        have q3 : w9.cell? ⟨g0_1, 3, none⟩ = some (.int .i64 p0.sum) := Rd.bcell (HH.out.get 0 rfl) 3 rfl
        have q4 : w9.cell? ⟨g0_1, 4, none⟩ = some (.int .i64 p0.load) := Rd.bcell (HH.out.get 0 rfl) 4 rfl
        go_wp2_with fail
        refine (impl_AssurancePrice_at b0 A0 n0 c0 p0.kind (p0.age + k0) (p0.years - k0) s _ (HF0.out.basT (HH.out.get 2 rfl)) HG.out.1 HG.out.2.1 HG.out.2.2).mono ?_
        rw [HPR.out]
        rintro e w10 ⟨rfl, hb⟩
        replace HB := Lib.hid (below_all HB.out hb)
        replace HH := Lib.hid (HH.out.past hb)
        clear hb
        clear z90 z91 z92
        clear q0 q1 q2 q3 q4
        have q0 : w10.cell? ⟨g0_1, 0, none⟩ = some (.int .i64 p0.kind) := Rd.bcell (HH.out.get 0 rfl) 0 rfl
        have q1 : w10.cell? ⟨g0_1, 1, none⟩ = some (.int .i64 p0.age) := Rd.bcell (HH.out.get 0 rfl) 1 rfl
        have q2 : w10.cell? ⟨g0_1, 2, none⟩ = some (.int .i64 p0.years) := Rd.bcell (HH.out.get 0 rfl) 2 rfl
        have q3 : w10.cell? ⟨g0_1, 3, none⟩ = some (.int .i64 p0.sum) := Rd.bcell (HH.out.get 0 rfl) 3 rfl
        have q4 : w10.cell? ⟨g0_1, 4, none⟩ = some (.int .i64 p0.load) := Rd.bcell (HH.out.get 0 rfl) 4 rfl
        go_wp2_with fail
        go_ret
        exact ⟨rfl, HB.out⟩
      · skip
        have hs' : decide (0 < s) = false := by simpa using hs
        have q0 : w9.cell? ⟨g0_1, 0, none⟩ = some (.int .i64 p0.kind) := Rd.bcell (HH.out.get 0 rfl) 0 rfl
        have q1 : w9.cell? ⟨g0_1, 1, none⟩ = some (.int .i64 p0.age) := Rd.bcell (HH.out.get 0 rfl) 1 rfl
        have q2 : w9.cell? ⟨g0_1, 2, none⟩ = some (.int .i64 p0.years) := Rd.bcell (HH.out.get 0 rfl) 2 rfl
        have q3 : w9.cell? ⟨g0_1, 3, none⟩ = some (.int .i64 p0.sum) := Rd.bcell (HH.out.get 0 rfl) 3 rfl
        have q4 : w9.cell? ⟨g0_1, 4, none⟩ = some (.int .i64 p0.load) := Rd.bcell (HH.out.get 0 rfl) 4 rfl
        go_wp2_with fail
        go_ret
        exact ⟨rfl, HB.out⟩
    · skip
      have HL := Lib.hid (show leftP p0 k0 = 0 by unfold leftP; exact if_pos (show p0.kind = 0 by simpa using hk))
      by_cases hs : 0 < s
      · skip
        obtain ⟨g1, g2, g3, g4⟩ := HG7.out (by omega)
        rw [HL.out] at g2 g4
        have hs' : decide (0 < s) = true := by simpa using hs
        generalize hpr : priceP b0 p0.kind (p0.age + k0) 0 s = pr at g4
        have HG := Lib.hid (And.intro g1 (And.intro g2 g3)); have HPR := Lib.hid hpr
        have h9 : decide (v < pr) = false := by simp; omega
        clear hpr g1 g2 g3
        have z90 : w9.cell? ⟨g0_0, 0, none⟩ = some (.int .i64 b0.first) := Rd.bcell (HH.out.get 1 rfl) 0 rfl
        have z91 : w9.cell? ⟨g0_0, 1, none⟩ = some (.slice A0 n0 c0) := Rd.bcell (HH.out.get 1 rfl) 1 rfl
        have z92 : w9.cell? ⟨g0_0, 2, none⟩ = some (.int .i64 b0.rate) := Rd.bcell (HH.out.get 1 rfl) 2 rfl
        have q0 : w9.cell? ⟨g0_1, 0, none⟩ = some (.int .i64 p0.kind) := Rd.bcell (HH.out.get 0 rfl) 0 rfl
        have q1 : w9.cell? ⟨g0_1, 1, none⟩ = some (.int .i64 p0.age) := Rd.bcell (HH.out.get 0 rfl) 1 rfl
        have q2 : w9.cell? ⟨g0_1, 2, none⟩ = some (.int .i64 p0.years) := Rd.bcell (HH.out.get 0 rfl) 2 rfl
        have q3 : w9.cell? ⟨g0_1, 3, none⟩ = some (.int .i64 p0.sum) := Rd.bcell (HH.out.get 0 rfl) 3 rfl
        have q4 : w9.cell? ⟨g0_1, 4, none⟩ = some (.int .i64 p0.load) := Rd.bcell (HH.out.get 0 rfl) 4 rfl
        go_wp2_with fail
        refine (impl_AssurancePrice_at b0 A0 n0 c0 p0.kind (p0.age + k0) 0 s _ (HF0.out.basT (HH.out.get 2 rfl)) HG.out.1 HG.out.2.1 HG.out.2.2).mono ?_
        rw [HPR.out]
        rintro e w10 ⟨rfl, hb⟩
        replace HB := Lib.hid (below_all HB.out hb)
        replace HH := Lib.hid (HH.out.past hb)
        clear hb
        clear z90 z91 z92
        clear q0 q1 q2 q3 q4
        have q0 : w10.cell? ⟨g0_1, 0, none⟩ = some (.int .i64 p0.kind) := Rd.bcell (HH.out.get 0 rfl) 0 rfl
        have q1 : w10.cell? ⟨g0_1, 1, none⟩ = some (.int .i64 p0.age) := Rd.bcell (HH.out.get 0 rfl) 1 rfl
        have q2 : w10.cell? ⟨g0_1, 2, none⟩ = some (.int .i64 p0.years) := Rd.bcell (HH.out.get 0 rfl) 2 rfl
        have q3 : w10.cell? ⟨g0_1, 3, none⟩ = some (.int .i64 p0.sum) := Rd.bcell (HH.out.get 0 rfl) 3 rfl
        have q4 : w10.cell? ⟨g0_1, 4, none⟩ = some (.int .i64 p0.load) := Rd.bcell (HH.out.get 0 rfl) 4 rfl
        go_wp2_with fail
        go_ret
        exact ⟨rfl, HB.out⟩
      · skip
        have hs' : decide (0 < s) = false := by simpa using hs
        have q0 : w9.cell? ⟨g0_1, 0, none⟩ = some (.int .i64 p0.kind) := Rd.bcell (HH.out.get 0 rfl) 0 rfl
        have q1 : w9.cell? ⟨g0_1, 1, none⟩ = some (.int .i64 p0.age) := Rd.bcell (HH.out.get 0 rfl) 1 rfl
        have q2 : w9.cell? ⟨g0_1, 2, none⟩ = some (.int .i64 p0.years) := Rd.bcell (HH.out.get 0 rfl) 2 rfl
        have q3 : w9.cell? ⟨g0_1, 3, none⟩ = some (.int .i64 p0.sum) := Rd.bcell (HH.out.get 0 rfl) 3 rfl
        have q4 : w9.cell? ⟨g0_1, 4, none⟩ = some (.int .i64 p0.load) := Rd.bcell (HH.out.get 0 rfl) 4 rfl
        go_wp2_with fail
        go_ret
        exact ⟨rfl, HB.out⟩
set_option maxRecDepth 100000 in
theorem lifted (os : Os) (started : os.Started) (H : Type) (enc : TypeId × Value → H) :
    ReturnsInHanded {} Try.checked os 5 .any (Rows.fnLeavingSpec.pre6 enc Try.prog Try.f5 Rows.fnLeavingRow.domain false) (Rows.fnLeavingSpec.post enc Try.prog Try.f5 false true false false) := by
  refine law_lifted os started H enc 4 (by kernel_rfl) Try.func5
    (ChangeSpec.witness6 (enc := enc) (C := Try.checked) false ⟨#[], #[.slice none 0 0], []⟩ 8 (by kernel_rfl) (by kernel_rfl) (by kernel_rfl) (by kernel_rfl)) rfl rfl Try.underlying4
    (by rw [Try.params5]; simp only [List.forall_mem_cons]; exact ⟨⟨by kernel_rfl, of_decide_eq_true (by kernel_rfl)⟩, by simp⟩) (fun ds hl => by
      match ds, hl with
      | [d0], _ => rfl) ?_
  intro W base args ds p hval hA
  rw [Try.params5] at hA hval
  obtain ⟨v0, vs0, d0, ds0, p0, q0, hargs, rfl, rfl, h0, rr0⟩ := trodAll_cons hA
  obtain ⟨rfl, rfl, rfl⟩ := trodAll_nil rr0
  obtain rfl : args = #[v0] := by cases args; simp_all
  obtain ⟨A0, n0, c0, rfl⟩ := okWide_slice Try.underlying22 (hval 0 22 v0 rfl rfl)
  obtain ⟨fu0, ho0⟩ := h0
  obtain ⟨bs, hbl, hby, hRd, hnm⟩ := open_code Try.underlying22 Try.underlying5 (by kernel_rfl) ho0
  exact walk ⟨A0, n0, c0, bs⟩ hbl hby hnm W hRd
theorem proved : Rows.FnLeavingSaid :=
  OpenClaim.holds_of_wide 5 Try.f5 rfl rfl rfl rfl rfl rfl rfl ⟨rfl, rfl, rfl, rfl, rfl⟩ rfl rfl rfl rfl rfl (by kernel_rfl) Try.func5 (by kernel_rfl)
    (of_decide_eq_true (by kernel_rfl)) (by unfold Func.isWrapper; first | (rw [if_pos (by decide +kernel)]; kernel_rfl) | (rw [if_neg (by decide +kernel)]; exact ⟨rfl, rfl⟩))
    (fun os started H enc _ => lifted os started H enc)
end fnLeaving
end Go.Proofs.Ytbjdbpdgacfcpaa
