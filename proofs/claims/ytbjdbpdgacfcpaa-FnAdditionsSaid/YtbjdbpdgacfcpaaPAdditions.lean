/- The law on additions: an addition costs at most the bonus, and what is left over is never negative. No condition. -/
import Derived.Test.YtbjdbpdgacfcpaaK0
import Derived.Test.YtbjdbpdgacfcpaaK1
import Derived.Test.YtbjdbpdgacfcpaaK13
import Derived.Test.YtbjdbpdgacfcpaaK14
import Derived.Test.YtbjdbpdgacfcpaaK15
import Derived.Test.YtbjdbpdgacfcpaaK16
namespace Go.Proofs.Ytbjdbpdgacfcpaa
open Go.ChangeShapes Go.WideShapes Go.ChangeAt Go.RowKit Go.Deep
namespace fnAdditions
set_option maxRecDepth 100000 in
set_option maxHeartbeats 8000000 in
theorem walk (K : Code) (hlen : K.bs.length = K.n) (hbyte : ∀ x ∈ K.bs, 0 ≤ x ∧ x ≤ 255) (hmax : K.n ≤ 9223372036854775807) (w : World) (hX : Rd w w.heap.size K.A 1 (byteRows K.bs)) :
    Calls Try.prog 3 #[.slice K.A K.n K.c] w fun e w' => e = .returned (.bool true) ∧ Below w.heap.size w w' := by
  by_cases hbig : 4096 < K.n
  · have hd : decide (4096 < K.n) = true := by simpa using hbig
    clear hX hbyte hlen
    go_enter Try.func3, Try.ntmps3
    go_wp2_with (go_at_call 8; refine (laws_big_any K.A K.n K.c _ (by omega)).mono ?_; rw [hd]; rintro e w' ⟨rfl, rfl⟩)
    go_ret
    exact ⟨rfl, Below.refl _ _⟩
  have hd : decide (4096 < K.n) = false := by simpa using hbig
  have hK : K.Ok := ⟨hlen, by omega, hbyte⟩
  have HH := Lib.hid ((Held.nil w).snoc hX)
  have HB := Lib.hid (Below.refl w.heap.size w)
  clear hX hbyte hlen hbig
  go_enter Try.func3, Try.ntmps3
  go_wp2_with (go_at_call 8; refine (laws_big_any K.A K.n K.c _ (by omega)).mono ?_; rw [hd]; rintro e w' ⟨rfl, rfl⟩)
  refine (spec_DrawAddBonuses_any K hK _ (HH.out.get 0 rfl)).mono ?_
  rintro e w1 ⟨b0, A0, n0, c0, H0, k0, e0, xs0, Y0, m0, f0, rfl, hP, hI, hm0, hb⟩
  obtain ⟨ys0, hRY, hyb0⟩ := hI
  have HF0 := Lib.hid hP.pf
  have hxl0 := HF0.out.xlen
  have hkl0 := HF0.out.len
  have hyl0 : ys0.length = m0 := by have := hRY.len; rwa [intRows_length] at this
  have hfy : ∀ y ∈ ys0, In64 y := fun y hy => in64_lt (by have := hyb0 y hy; omega)
  replace HB := Lib.hid (below_all HB.out hb)
  replace HH := Lib.hid ((((HH.out.past hb).cons hP.liv.rd).cons hP.res.rd).cons hRY.rd)
  clear hb
  clear hP hRY
  obtain ⟨hb, hr0⟩ := box1 (w := w1) (tx := 28) (X := [.int .i64 b0.first, .slice A0 n0 c0, .int .i64 b0.rate])
  replace HB := Lib.hid (below_all HB.out hb)
  replace HH := Lib.hid ((HH.out.past hb).cons hr0)
  clear hb hr0
  have HL_bx0 := Lib.hid (Rd.box (HH.out.get 0 rfl))
  go_wp2_with (refine wpList_load_agg rfl 28 _ rfl ⟨w1.heap.size, 0, none⟩ rfl [.int .i64 b0.first, .slice A0 n0 c0, .int .i64 b0.rate] HL_bx0.out _ Try.underlying28 rfl Bas.size ?_)
  clear HL_bx0
  generalize (w1.alloc (.cells #[.int .i64 b0.first, .slice A0 n0 c0, .int .i64 b0.rate] 28)) = v0 at HB HH ⊢
  generalize w1.heap.size = g0_0 at HH ⊢
  refine (impl_AddBonuses_any b0 A0 n0 c0 H0 k0 e0 xs0 Y0 m0 f0 ys0 _ (HF0.out.bf.basT (HH.out.get 3 rfl)) hxl0 (by omega) (HH.out.get 2 rfl) HF0.out.fits hyl0 (by omega) (HH.out.get 1 rfl) hfy).mono ?_
  rintro e w2 ⟨A1, n1, c1, rfl, hR, hb⟩
  have hl1 : (addsP b0 xs0 ys0).1.length = n1 := by have := hR.len; rwa [holdingRows_length] at this
  replace HB := Lib.hid (below_all HB.out hb)
  replace HH := Lib.hid ((HH.out.past hb).cons hR.rd)
  clear hb
  clear hR
  have HL_bx0 := Lib.hid (Rd.box (HH.out.get 1 rfl))
  go_wp2_with (refine wpList_load_agg rfl 28 _ rfl ⟨g0_0, 0, none⟩ rfl [.int .i64 b0.first, .slice A0 n0 c0, .int .i64 b0.rate] HL_bx0.out _ Try.underlying28 rfl Bas.size ?_)
  clear HL_bx0
  refine (spec_AddBonuses_any b0 A0 n0 c0 H0 k0 e0 xs0 Y0 m0 f0 ys0 _ (HF0.out.bf.basT (HH.out.get 4 rfl)) hxl0 (by omega) (HH.out.get 3 rfl) HF0.out.fits hyl0 (by omega) (HH.out.get 2 rfl) hfy).mono ?_
  rintro e w3 ⟨A2, n2, c2, rfl, hR, hb⟩
  have hl2 : (addsP b0 xs0 ys0).1.length = n2 := by have := hR.len; rwa [holdingRows_length] at this
  obtain rfl : n1 = n2 := by rw [← hl1, ← hl2]
  replace HB := Lib.hid (below_all HB.out hb)
  replace HH := Lib.hid ((HH.out.past hb).cons hR.rd)
  clear hb
  clear hR
  have hs1 : n1 ≤ 1048576 := by rw [← hl1]; exact adds_small b0 xs0 ys0
  go_wp2_with fail
  refine (spec_DrawAdditionFor_any K hK _ (HH.out.get 6 rfl)).mono ?_
  rintro e w4 ⟨b3, A3, n3, c3, h3, v3, rfl, hR, hs3, hf3, hv3, hb⟩
  have HF3 := Lib.hid (BF.of hR hs3)
  have hv3b : In64 v3 := in64_lt (by omega)
  replace HB := Lib.hid (below_all HB.out hb)
  replace HH := Lib.hid ((HH.out.past hb).cons hR.rd)
  clear hb
  clear hR
  clear hs3
  obtain ⟨hb, hr0, hr1⟩ := box2 (w := w4) (tx := 28) (ty := 37) (X := [.int .i64 b3.first, .slice A3 n3 c3, .int .i64 b3.rate]) (Y := [.int .i64 h3.kind, .int .i64 h3.age, .int .i64 h3.years, .int .i64 h3.sum, .int .i64 h3.load, .int .i64 h3.year, .int .i64 h3.count])
  replace HB := Lib.hid (below_all HB.out hb)
  replace HH := Lib.hid (((HH.out.past hb).cons hr0).cons hr1)
  clear hb hr0 hr1
  have HL_bx3 := Lib.hid (Rd.box (HH.out.get 1 rfl))
  have HL_hx3 := Lib.hid (Rd.box (HH.out.get 0 rfl))
  go_wp2_with (first | (refine wpList_load_agg rfl 28 _ rfl ⟨w4.heap.size, 0, none⟩ rfl [.int .i64 b3.first, .slice A3 n3 c3, .int .i64 b3.rate] HL_bx3.out _ Try.underlying28 rfl Bas.size ?_) | (refine wpList_load_agg rfl 37 _ rfl ⟨w4.heap.size + 1, 0, none⟩ rfl [.int .i64 h3.kind, .int .i64 h3.age, .int .i64 h3.years, .int .i64 h3.sum, .int .i64 h3.load, .int .i64 h3.year, .int .i64 h3.count] HL_hx3.out _ Try.underlying37 rfl Holding.size ?_))
  clear HL_bx3 HL_hx3
  generalize ((w4.alloc (.cells #[.int .i64 b3.first, .slice A3 n3 c3, .int .i64 b3.rate] 28)).alloc (.cells #[.int .i64 h3.kind, .int .i64 h3.age, .int .i64 h3.years, .int .i64 h3.sum, .int .i64 h3.load, .int .i64 h3.year, .int .i64 h3.count] 37)) = v1 at HB HH ⊢
  generalize w4.heap.size + 1 = g1_1 at HH ⊢
  generalize w4.heap.size = g1_0 at HH ⊢
  refine (impl_AdditionFor_any b3 A3 n3 c3 h3 v3 _ (HF3.out.basT (HH.out.get 2 rfl)) hf3 hv3b).mono ?_
  rintro e w5 ⟨rfl, hb⟩
  replace HB := Lib.hid (below_all HB.out hb)
  replace HH := Lib.hid (HH.out.past hb)
  clear hb
  have HL_bx3 := Lib.hid (Rd.box (HH.out.get 1 rfl))
  have HL_hx3 := Lib.hid (Rd.box (HH.out.get 0 rfl))
  go_wp2_with (first | (refine wpList_load_agg rfl 28 _ rfl ⟨g1_0, 0, none⟩ rfl [.int .i64 b3.first, .slice A3 n3 c3, .int .i64 b3.rate] HL_bx3.out _ Try.underlying28 rfl Bas.size ?_) | (refine wpList_load_agg rfl 37 _ rfl ⟨g1_1, 0, none⟩ rfl [.int .i64 h3.kind, .int .i64 h3.age, .int .i64 h3.years, .int .i64 h3.sum, .int .i64 h3.load, .int .i64 h3.year, .int .i64 h3.count] HL_hx3.out _ Try.underlying37 rfl Holding.size ?_))
  clear HL_bx3 HL_hx3
  refine (spec_AdditionFor_any b3 A3 n3 c3 h3 v3 _ (HF3.out.basT (HH.out.get 2 rfl)) hf3 hv3b).mono ?_
  rintro e w6 ⟨rfl, hb⟩
  replace HB := Lib.hid (below_all HB.out hb)
  replace HH := Lib.hid (HH.out.past hb)
  clear hb
  go_wp2_with fail
  refine (likeHoldings9_any A1 n1 c1 A2 c2 (addsP b0 xs0 ys0).1 _ hl1 hs1 (HH.out.get 4 rfl) (HH.out.get 3 rfl)).mono ?_
  rintro e w7 ⟨rfl, hb⟩
  replace HB := Lib.hid (below_all HB.out hb)
  replace HH := Lib.hid (HH.out.past hb)
  clear hb
  clear hd hmax hK hl2
  cases hcf : ((addForP b3 h3 v3).2 == 0)
  · skip
    cases hcd : ((addsP b0 xs0 ys0).2.2 == 0)
    · skip
      have hcd2 : ((addsP b0 xs0 ys0).2.2 != 0) = true := by simpa [bne] using hcd
      go_wp2_with fail
      go_ret
      exact ⟨rfl, HB.out⟩
    · skip
      have hcd2 : ((addsP b0 xs0 ys0).2.2 != 0) = false := by simpa [bne] using hcd
      obtain ⟨g1, g2, g3, g4, ⟨g5, g6⟩, g7, g8⟩ := adds_good (show (addsP b0 xs0 ys0).2.2 = 0 by simpa using hcd)
      have g9 : (addH b0 xs0 ys0).length = k0 := by rw [addH_len hxl0 (by rw [g2, hxl0])]
      rw [g4] at HH hl1
      obtain rfl : k0 = n1 := by rw [← hl1, ← g9]
      have HG8 := Lib.hid g8
      have HG7 := Lib.hid g7
      have HG2 := Lib.hid g2
      have HG4 := Lib.hid g4
      have hlf : (addsP b0 xs0 ys0).2.1 = addLeft b0 xs0 ys0 := by rw [g4]
      rw [hlf]
      have hsm := port_hold g1
      have HSM := Lib.hid hsm.1
      have HSS := Lib.hid (SumOk.of (xs := ys0) (n := 30) (lo := 0) (hi := 1000000000) (by decide) (by decide) (by rw [g2]; exact hsm.1) g3 (by decide))
      have hLe : decide (addLeft b0 xs0 ys0 ≤ ys0.sum) = true := by simpa using g6
      have hLe0 : decide (0 ≤ addLeft b0 xs0 ys0) = true := by simpa using g5
      have HLE := Lib.hid hLe; clear hLe
      clear hlf g1 g2 g3 g4 g7 g8 g6 hsm
      go_wp2_with fail
      go_loopw [22] (fun i wr => ∃ a : Nat, a ≤ k0 ∧ i = .int .i64 a ∧ Below w7.heap.size w7 wr) (fun i _ => k0 - (intOf i).toNat)
      case atStart => exact ⟨0, by omega, rfl, Below.refl _ _⟩
      case round =>
        obtain ⟨a, ha, rfl, hb⟩ := hrel
        replace HB := Lib.hid (below_all HB.out hb)
        replace HH := Lib.hid (HH.out.past hb)
        by_cases hlt : a < k0
        · obtain ⟨x, hx⟩ := get_of_lt (xs := xs0) (k := a) (by omega)
          obtain ⟨z, hz⟩ := get_of_lt (xs := addH b0 xs0 ys0) (k := a) (by omega)
          obtain ⟨q1, q2, q3⟩ := HG8.out a x z hx hz
          obtain ⟨ad4, rfl, had4, _, hc4⟩ := ((HH.out.get 7 rfl)).at' (holdingRows_get hx)
          obtain ⟨ad5, rfl, had5, _, hc5⟩ := ((HH.out.get 4 rfl)).at' (holdingRows_get hz)
          obtain ⟨_, _, _, x3, _, x5, x6⟩ := Holding.cells hc4
          obtain ⟨_, _, _, z3, _, z5, z6⟩ := Holding.cells hc5
          have d0 := fun y : Past wr => Past.cell x3 y
          have d1 := fun y : Past wr => Past.cell x5 y
          have d2 := fun y : Past wr => Past.cell x6 y
          have d3 := fun y : Past wr => Past.cell z3 y
          have d4 := fun y : Past wr => Past.cell z5 y
          have d5 := fun y : Past wr => Past.cell z6 y
          have hai : (a : Int) < (k0 : Int) := by omega
          have r1 : decide (z.sum < x.sum) = false := by simp; omega
          have r2 : (z.count != x.count) = false := by simp [q2]
          have r3 : (z.year != x.year) = false := by simp [q3]
          clear hx hz q1 q2 q3 hc4 hc5 x3 x5 x6 z3 z5 z6 hlt
          go_wp2
          refine wp_region_past (by kernel_rfl) (by kernel_rfl) ?_
          repeat (go_big_quiet_step (fail))
          refine wpQuiet_nil ?_
          rintro _ ⟨y, rfl⟩
          go_wp2
          go_roundw
          case rel => exact ⟨a + 1, by omega, by go_num, hb.trans (y.2.mono hb.size)⟩
          case measure => simp [intOf]; omega
        · have hai : ¬ (a : Int) < (k0 : Int) := by omega
          clear hlt ha
          have p0 : wr.cell? ⟨g0_0, 0, none⟩ = some (.int .i64 b0.first) := Rd.bcell (HH.out.get 5 rfl) 0 rfl
          have p1 : wr.cell? ⟨g0_0, 1, none⟩ = some (.slice A0 n0 c0) := Rd.bcell (HH.out.get 5 rfl) 1 rfl
          have p2 : wr.cell? ⟨g0_0, 2, none⟩ = some (.int .i64 b0.rate) := Rd.bcell (HH.out.get 5 rfl) 2 rfl
          go_wp2_with fail
          refine (laws_sum_any Y0 m0 f0 ys0 _ hyl0 (by omega) (HH.out.get 6 rfl) HSS.out).mono ?_
          rintro e w' ⟨rfl, rfl⟩
          have hLe := HLE.out
          go_wp2_with fail
          refine (impl_IsPortfolio_any b0 A0 n0 c0 A1 k0 c1 (addH b0 xs0 ys0) _ (HF0.out.bf.basT (HH.out.get 8 rfl)) g9 hs1 (HH.out.get 4 rfl) (port_fits HG7.out)).mono ?_
          rw [HG7.out]
          rintro e w' ⟨rfl, hb⟩
          replace HB := Lib.hid (below_all HB.out hb)
          go_wp2_with fail
          go_ret
          exact ⟨rfl, HB.out⟩
  · skip
    by_cases hps : 0 < (addForP b3 h3 v3).1
    · skip
      obtain ⟨g1, g2, g3, g4, g5, g6, ⟨y0, y1⟩, ⟨a0, a1⟩, ⟨n0', n1'⟩⟩ := addFor_good (show (addForP b3 h3 v3).2 = 0 by simpa using hcf) hps
      have HG := Lib.hid (And.intro g1 (And.intro g2 g3))
      have hpl : IntKind.i64.wrap (h3.age + h3.year) = h3.age + h3.year := IntWalk.i64_in _ (by omega)
      clear g1 g2 g3
      cases hk : (h3.kind == 0)
      · skip
        have p0 : w7.cell? ⟨g1_0, 0, none⟩ = some (.int .i64 b3.first) := Rd.bcell (HH.out.get 1 rfl) 0 rfl
        have p1 : w7.cell? ⟨g1_0, 1, none⟩ = some (.slice A3 n3 c3) := Rd.bcell (HH.out.get 1 rfl) 1 rfl
        have p2 : w7.cell? ⟨g1_0, 2, none⟩ = some (.int .i64 b3.rate) := Rd.bcell (HH.out.get 1 rfl) 2 rfl
        have q0 : w7.cell? ⟨g1_1, 0, none⟩ = some (.int .i64 h3.kind) := Rd.bcell (HH.out.get 0 rfl) 0 rfl
        have q1 : w7.cell? ⟨g1_1, 1, none⟩ = some (.int .i64 h3.age) := Rd.bcell (HH.out.get 0 rfl) 1 rfl
        have q2 : w7.cell? ⟨g1_1, 2, none⟩ = some (.int .i64 h3.years) := Rd.bcell (HH.out.get 0 rfl) 2 rfl
        have q3 : w7.cell? ⟨g1_1, 3, none⟩ = some (.int .i64 h3.sum) := Rd.bcell (HH.out.get 0 rfl) 3 rfl
        have q4 : w7.cell? ⟨g1_1, 4, none⟩ = some (.int .i64 h3.load) := Rd.bcell (HH.out.get 0 rfl) 4 rfl
        have q5 : w7.cell? ⟨g1_1, 5, none⟩ = some (.int .i64 h3.year) := Rd.bcell (HH.out.get 0 rfl) 5 rfl
        have q6 : w7.cell? ⟨g1_1, 6, none⟩ = some (.int .i64 h3.count) := Rd.bcell (HH.out.get 0 rfl) 6 rfl
        have hL : leftP h3.pol h3.year = h3.years - h3.year := by unfold leftP; exact if_neg (show ¬ h3.kind = 0 by simpa using hk)
        rw [hL] at HG g4 g5
        clear hL
        generalize hpr : priceP b3 h3.kind (h3.age + h3.year) (h3.years - h3.year) (addForP b3 h3 v3).1 = pr at g4 g5
        have HPR := Lib.hid hpr; clear hpr
        have hg5 : decide (v3 < pr * h3.count) = false := by simp; omega
        go_wp2_with fail
        refine (impl_AssurancePrice_at b3 A3 n3 c3 h3.kind (h3.age + h3.year) (h3.years - h3.year) (addForP b3 h3 v3).1 _ (HF3.out.basT (HH.out.get 2 rfl)) HG.out.1 HG.out.2.1 HG.out.2.2).mono ?_
        rw [HPR.out]
        rintro e w8 ⟨rfl, hb⟩
        replace HB := Lib.hid (below_all HB.out hb)
        replace HH := Lib.hid (HH.out.past hb)
        clear hb
        clear p0 p1 p2 q0 q1 q2 q3 q4 q5 q6
        have q0 : w8.cell? ⟨g1_1, 0, none⟩ = some (.int .i64 h3.kind) := Rd.bcell (HH.out.get 0 rfl) 0 rfl
        have q1 : w8.cell? ⟨g1_1, 1, none⟩ = some (.int .i64 h3.age) := Rd.bcell (HH.out.get 0 rfl) 1 rfl
        have q2 : w8.cell? ⟨g1_1, 2, none⟩ = some (.int .i64 h3.years) := Rd.bcell (HH.out.get 0 rfl) 2 rfl
        have q3 : w8.cell? ⟨g1_1, 3, none⟩ = some (.int .i64 h3.sum) := Rd.bcell (HH.out.get 0 rfl) 3 rfl
        have q4 : w8.cell? ⟨g1_1, 4, none⟩ = some (.int .i64 h3.load) := Rd.bcell (HH.out.get 0 rfl) 4 rfl
        have q5 : w8.cell? ⟨g1_1, 5, none⟩ = some (.int .i64 h3.year) := Rd.bcell (HH.out.get 0 rfl) 5 rfl
        have q6 : w8.cell? ⟨g1_1, 6, none⟩ = some (.int .i64 h3.count) := Rd.bcell (HH.out.get 0 rfl) 6 rfl
        generalize (addForP b3 h3 v3).1 = av
        cases hcd : ((addsP b0 xs0 ys0).2.2 == 0)
        · skip
          have hcd2 : ((addsP b0 xs0 ys0).2.2 != 0) = true := by simpa [bne] using hcd
          go_wp2_with fail
          go_ret
          exact ⟨rfl, HB.out⟩
        · skip
          have hcd2 : ((addsP b0 xs0 ys0).2.2 != 0) = false := by simpa [bne] using hcd
          obtain ⟨g1, g2, g3, g4, ⟨g5, g6⟩, g7, g8⟩ := adds_good (show (addsP b0 xs0 ys0).2.2 = 0 by simpa using hcd)
          have g9 : (addH b0 xs0 ys0).length = k0 := by rw [addH_len hxl0 (by rw [g2, hxl0])]
          rw [g4] at HH hl1
          obtain rfl : k0 = n1 := by rw [← hl1, ← g9]
          have HG8 := Lib.hid g8
          have HG7 := Lib.hid g7
          have HG2 := Lib.hid g2
          have HG4 := Lib.hid g4
          have hlf : (addsP b0 xs0 ys0).2.1 = addLeft b0 xs0 ys0 := by rw [g4]
          rw [hlf]
          have hsm := port_hold g1
          have HSM := Lib.hid hsm.1
          have HSS := Lib.hid (SumOk.of (xs := ys0) (n := 30) (lo := 0) (hi := 1000000000) (by decide) (by decide) (by rw [g2]; exact hsm.1) g3 (by decide))
          have hLe : decide (addLeft b0 xs0 ys0 ≤ ys0.sum) = true := by simpa using g6
          have hLe0 : decide (0 ≤ addLeft b0 xs0 ys0) = true := by simpa using g5
          have HLE := Lib.hid hLe; clear hLe
          clear hlf g1 g2 g3 g4 g7 g8 g6 hsm
          go_wp2_with fail
          go_loopw [22] (fun i wr => ∃ a : Nat, a ≤ k0 ∧ i = .int .i64 a ∧ Below w8.heap.size w8 wr) (fun i _ => k0 - (intOf i).toNat)
          case atStart => exact ⟨0, by omega, rfl, Below.refl _ _⟩
          case round =>
            obtain ⟨a, ha, rfl, hb⟩ := hrel
            replace HB := Lib.hid (below_all HB.out hb)
            replace HH := Lib.hid (HH.out.past hb)
            by_cases hlt : a < k0
            · obtain ⟨x, hx⟩ := get_of_lt (xs := xs0) (k := a) (by omega)
              obtain ⟨z, hz⟩ := get_of_lt (xs := addH b0 xs0 ys0) (k := a) (by omega)
              obtain ⟨q1, q2, q3⟩ := HG8.out a x z hx hz
              obtain ⟨ad4, rfl, had4, _, hc4⟩ := ((HH.out.get 7 rfl)).at' (holdingRows_get hx)
              obtain ⟨ad5, rfl, had5, _, hc5⟩ := ((HH.out.get 4 rfl)).at' (holdingRows_get hz)
              obtain ⟨_, _, _, x3, _, x5, x6⟩ := Holding.cells hc4
              obtain ⟨_, _, _, z3, _, z5, z6⟩ := Holding.cells hc5
              have d0 := fun y : Past wr => Past.cell x3 y
              have d1 := fun y : Past wr => Past.cell x5 y
              have d2 := fun y : Past wr => Past.cell x6 y
              have d3 := fun y : Past wr => Past.cell z3 y
              have d4 := fun y : Past wr => Past.cell z5 y
              have d5 := fun y : Past wr => Past.cell z6 y
              have hai : (a : Int) < (k0 : Int) := by omega
              have r1 : decide (z.sum < x.sum) = false := by simp; omega
              have r2 : (z.count != x.count) = false := by simp [q2]
              have r3 : (z.year != x.year) = false := by simp [q3]
              clear hx hz q1 q2 q3 hc4 hc5 x3 x5 x6 z3 z5 z6 hlt
              go_wp2
              refine wp_region_past (by kernel_rfl) (by kernel_rfl) ?_
              repeat (go_big_quiet_step (fail))
              refine wpQuiet_nil ?_
              rintro _ ⟨y, rfl⟩
              go_wp2
              go_roundw
              case rel => exact ⟨a + 1, by omega, by go_num, hb.trans (y.2.mono hb.size)⟩
              case measure => simp [intOf]; omega
            · have hai : ¬ (a : Int) < (k0 : Int) := by omega
              clear hlt ha
              have p0 : wr.cell? ⟨g0_0, 0, none⟩ = some (.int .i64 b0.first) := Rd.bcell (HH.out.get 5 rfl) 0 rfl
              have p1 : wr.cell? ⟨g0_0, 1, none⟩ = some (.slice A0 n0 c0) := Rd.bcell (HH.out.get 5 rfl) 1 rfl
              have p2 : wr.cell? ⟨g0_0, 2, none⟩ = some (.int .i64 b0.rate) := Rd.bcell (HH.out.get 5 rfl) 2 rfl
              go_wp2_with fail
              refine (laws_sum_any Y0 m0 f0 ys0 _ hyl0 (by omega) (HH.out.get 6 rfl) HSS.out).mono ?_
              rintro e w' ⟨rfl, rfl⟩
              have hLe := HLE.out
              go_wp2_with fail
              refine (impl_IsPortfolio_any b0 A0 n0 c0 A1 k0 c1 (addH b0 xs0 ys0) _ (HF0.out.bf.basT (HH.out.get 8 rfl)) g9 hs1 (HH.out.get 4 rfl) (port_fits HG7.out)).mono ?_
              rw [HG7.out]
              rintro e w' ⟨rfl, hb⟩
              replace HB := Lib.hid (below_all HB.out hb)
              go_wp2_with fail
              go_ret
              exact ⟨rfl, HB.out⟩
      · skip
        have p0 : w7.cell? ⟨g1_0, 0, none⟩ = some (.int .i64 b3.first) := Rd.bcell (HH.out.get 1 rfl) 0 rfl
        have p1 : w7.cell? ⟨g1_0, 1, none⟩ = some (.slice A3 n3 c3) := Rd.bcell (HH.out.get 1 rfl) 1 rfl
        have p2 : w7.cell? ⟨g1_0, 2, none⟩ = some (.int .i64 b3.rate) := Rd.bcell (HH.out.get 1 rfl) 2 rfl
        have q0 : w7.cell? ⟨g1_1, 0, none⟩ = some (.int .i64 h3.kind) := Rd.bcell (HH.out.get 0 rfl) 0 rfl
        have q1 : w7.cell? ⟨g1_1, 1, none⟩ = some (.int .i64 h3.age) := Rd.bcell (HH.out.get 0 rfl) 1 rfl
        have q2 : w7.cell? ⟨g1_1, 2, none⟩ = some (.int .i64 h3.years) := Rd.bcell (HH.out.get 0 rfl) 2 rfl
        have q3 : w7.cell? ⟨g1_1, 3, none⟩ = some (.int .i64 h3.sum) := Rd.bcell (HH.out.get 0 rfl) 3 rfl
        have q4 : w7.cell? ⟨g1_1, 4, none⟩ = some (.int .i64 h3.load) := Rd.bcell (HH.out.get 0 rfl) 4 rfl
        have q5 : w7.cell? ⟨g1_1, 5, none⟩ = some (.int .i64 h3.year) := Rd.bcell (HH.out.get 0 rfl) 5 rfl
        have q6 : w7.cell? ⟨g1_1, 6, none⟩ = some (.int .i64 h3.count) := Rd.bcell (HH.out.get 0 rfl) 6 rfl
        have hL : leftP h3.pol h3.year = 0 := by unfold leftP; exact if_pos (show h3.kind = 0 by simpa using hk)
        rw [hL] at HG g4 g5
        clear hL
        generalize hpr : priceP b3 h3.kind (h3.age + h3.year) 0 (addForP b3 h3 v3).1 = pr at g4 g5
        have HPR := Lib.hid hpr; clear hpr
        have hg5 : decide (v3 < pr * h3.count) = false := by simp; omega
        go_wp2_with fail
        refine (impl_AssurancePrice_at b3 A3 n3 c3 h3.kind (h3.age + h3.year) 0 (addForP b3 h3 v3).1 _ (HF3.out.basT (HH.out.get 2 rfl)) HG.out.1 HG.out.2.1 HG.out.2.2).mono ?_
        rw [HPR.out]
        rintro e w8 ⟨rfl, hb⟩
        replace HB := Lib.hid (below_all HB.out hb)
        replace HH := Lib.hid (HH.out.past hb)
        clear hb
        clear p0 p1 p2 q0 q1 q2 q3 q4 q5 q6
        have q0 : w8.cell? ⟨g1_1, 0, none⟩ = some (.int .i64 h3.kind) := Rd.bcell (HH.out.get 0 rfl) 0 rfl
        have q1 : w8.cell? ⟨g1_1, 1, none⟩ = some (.int .i64 h3.age) := Rd.bcell (HH.out.get 0 rfl) 1 rfl
        have q2 : w8.cell? ⟨g1_1, 2, none⟩ = some (.int .i64 h3.years) := Rd.bcell (HH.out.get 0 rfl) 2 rfl
        have q3 : w8.cell? ⟨g1_1, 3, none⟩ = some (.int .i64 h3.sum) := Rd.bcell (HH.out.get 0 rfl) 3 rfl
        have q4 : w8.cell? ⟨g1_1, 4, none⟩ = some (.int .i64 h3.load) := Rd.bcell (HH.out.get 0 rfl) 4 rfl
        have q5 : w8.cell? ⟨g1_1, 5, none⟩ = some (.int .i64 h3.year) := Rd.bcell (HH.out.get 0 rfl) 5 rfl
        have q6 : w8.cell? ⟨g1_1, 6, none⟩ = some (.int .i64 h3.count) := Rd.bcell (HH.out.get 0 rfl) 6 rfl
        generalize (addForP b3 h3 v3).1 = av
        cases hcd : ((addsP b0 xs0 ys0).2.2 == 0)
        · skip
          have hcd2 : ((addsP b0 xs0 ys0).2.2 != 0) = true := by simpa [bne] using hcd
          go_wp2_with fail
          go_ret
          exact ⟨rfl, HB.out⟩
        · skip
          have hcd2 : ((addsP b0 xs0 ys0).2.2 != 0) = false := by simpa [bne] using hcd
          obtain ⟨g1, g2, g3, g4, ⟨g5, g6⟩, g7, g8⟩ := adds_good (show (addsP b0 xs0 ys0).2.2 = 0 by simpa using hcd)
          have g9 : (addH b0 xs0 ys0).length = k0 := by rw [addH_len hxl0 (by rw [g2, hxl0])]
          rw [g4] at HH hl1
          obtain rfl : k0 = n1 := by rw [← hl1, ← g9]
          have HG8 := Lib.hid g8
          have HG7 := Lib.hid g7
          have HG2 := Lib.hid g2
          have HG4 := Lib.hid g4
          have hlf : (addsP b0 xs0 ys0).2.1 = addLeft b0 xs0 ys0 := by rw [g4]
          rw [hlf]
          have hsm := port_hold g1
          have HSM := Lib.hid hsm.1
          have HSS := Lib.hid (SumOk.of (xs := ys0) (n := 30) (lo := 0) (hi := 1000000000) (by decide) (by decide) (by rw [g2]; exact hsm.1) g3 (by decide))
          have hLe : decide (addLeft b0 xs0 ys0 ≤ ys0.sum) = true := by simpa using g6
          have hLe0 : decide (0 ≤ addLeft b0 xs0 ys0) = true := by simpa using g5
          have HLE := Lib.hid hLe; clear hLe
          clear hlf g1 g2 g3 g4 g7 g8 g6 hsm
          go_wp2_with fail
          go_loopw [22] (fun i wr => ∃ a : Nat, a ≤ k0 ∧ i = .int .i64 a ∧ Below w8.heap.size w8 wr) (fun i _ => k0 - (intOf i).toNat)
          case atStart => exact ⟨0, by omega, rfl, Below.refl _ _⟩
          case round =>
            obtain ⟨a, ha, rfl, hb⟩ := hrel
            replace HB := Lib.hid (below_all HB.out hb)
            replace HH := Lib.hid (HH.out.past hb)
            by_cases hlt : a < k0
            · obtain ⟨x, hx⟩ := get_of_lt (xs := xs0) (k := a) (by omega)
              obtain ⟨z, hz⟩ := get_of_lt (xs := addH b0 xs0 ys0) (k := a) (by omega)
              obtain ⟨q1, q2, q3⟩ := HG8.out a x z hx hz
              obtain ⟨ad4, rfl, had4, _, hc4⟩ := ((HH.out.get 7 rfl)).at' (holdingRows_get hx)
              obtain ⟨ad5, rfl, had5, _, hc5⟩ := ((HH.out.get 4 rfl)).at' (holdingRows_get hz)
              obtain ⟨_, _, _, x3, _, x5, x6⟩ := Holding.cells hc4
              obtain ⟨_, _, _, z3, _, z5, z6⟩ := Holding.cells hc5
              have d0 := fun y : Past wr => Past.cell x3 y
              have d1 := fun y : Past wr => Past.cell x5 y
              have d2 := fun y : Past wr => Past.cell x6 y
              have d3 := fun y : Past wr => Past.cell z3 y
              have d4 := fun y : Past wr => Past.cell z5 y
              have d5 := fun y : Past wr => Past.cell z6 y
              have hai : (a : Int) < (k0 : Int) := by omega
              have r1 : decide (z.sum < x.sum) = false := by simp; omega
              have r2 : (z.count != x.count) = false := by simp [q2]
              have r3 : (z.year != x.year) = false := by simp [q3]
              clear hx hz q1 q2 q3 hc4 hc5 x3 x5 x6 z3 z5 z6 hlt
              go_wp2
              refine wp_region_past (by kernel_rfl) (by kernel_rfl) ?_
              repeat (go_big_quiet_step (fail))
              refine wpQuiet_nil ?_
              rintro _ ⟨y, rfl⟩
              go_wp2
              go_roundw
              case rel => exact ⟨a + 1, by omega, by go_num, hb.trans (y.2.mono hb.size)⟩
              case measure => simp [intOf]; omega
            · have hai : ¬ (a : Int) < (k0 : Int) := by omega
              clear hlt ha
              have p0 : wr.cell? ⟨g0_0, 0, none⟩ = some (.int .i64 b0.first) := Rd.bcell (HH.out.get 5 rfl) 0 rfl
              have p1 : wr.cell? ⟨g0_0, 1, none⟩ = some (.slice A0 n0 c0) := Rd.bcell (HH.out.get 5 rfl) 1 rfl
              have p2 : wr.cell? ⟨g0_0, 2, none⟩ = some (.int .i64 b0.rate) := Rd.bcell (HH.out.get 5 rfl) 2 rfl
              go_wp2_with fail
              refine (laws_sum_any Y0 m0 f0 ys0 _ hyl0 (by omega) (HH.out.get 6 rfl) HSS.out).mono ?_
              rintro e w' ⟨rfl, rfl⟩
              have hLe := HLE.out
              go_wp2_with fail
              refine (impl_IsPortfolio_any b0 A0 n0 c0 A1 k0 c1 (addH b0 xs0 ys0) _ (HF0.out.bf.basT (HH.out.get 8 rfl)) g9 hs1 (HH.out.get 4 rfl) (port_fits HG7.out)).mono ?_
              rw [HG7.out]
              rintro e w' ⟨rfl, hb⟩
              replace HB := Lib.hid (below_all HB.out hb)
              go_wp2_with fail
              go_ret
              exact ⟨rfl, HB.out⟩
    · skip
      cases hcd : ((addsP b0 xs0 ys0).2.2 == 0)
      · skip
        have hcd2 : ((addsP b0 xs0 ys0).2.2 != 0) = true := by simpa [bne] using hcd
        go_wp2_with fail
        go_ret
        exact ⟨rfl, HB.out⟩
      · skip
        have hcd2 : ((addsP b0 xs0 ys0).2.2 != 0) = false := by simpa [bne] using hcd
        obtain ⟨g1, g2, g3, g4, ⟨g5, g6⟩, g7, g8⟩ := adds_good (show (addsP b0 xs0 ys0).2.2 = 0 by simpa using hcd)
        have g9 : (addH b0 xs0 ys0).length = k0 := by rw [addH_len hxl0 (by rw [g2, hxl0])]
        rw [g4] at HH hl1
        obtain rfl : k0 = n1 := by rw [← hl1, ← g9]
        have HG8 := Lib.hid g8
        have HG7 := Lib.hid g7
        have HG2 := Lib.hid g2
        have HG4 := Lib.hid g4
        have hlf : (addsP b0 xs0 ys0).2.1 = addLeft b0 xs0 ys0 := by rw [g4]
        rw [hlf]
        have hsm := port_hold g1
        have HSM := Lib.hid hsm.1
        have HSS := Lib.hid (SumOk.of (xs := ys0) (n := 30) (lo := 0) (hi := 1000000000) (by decide) (by decide) (by rw [g2]; exact hsm.1) g3 (by decide))
        have hLe : decide (addLeft b0 xs0 ys0 ≤ ys0.sum) = true := by simpa using g6
        have hLe0 : decide (0 ≤ addLeft b0 xs0 ys0) = true := by simpa using g5
        have HLE := Lib.hid hLe; clear hLe
        clear hlf g1 g2 g3 g4 g7 g8 g6 hsm
        go_wp2_with fail
        go_loopw [22] (fun i wr => ∃ a : Nat, a ≤ k0 ∧ i = .int .i64 a ∧ Below w7.heap.size w7 wr) (fun i _ => k0 - (intOf i).toNat)
        case atStart => exact ⟨0, by omega, rfl, Below.refl _ _⟩
        case round =>
          obtain ⟨a, ha, rfl, hb⟩ := hrel
          replace HB := Lib.hid (below_all HB.out hb)
          replace HH := Lib.hid (HH.out.past hb)
          by_cases hlt : a < k0
          · obtain ⟨x, hx⟩ := get_of_lt (xs := xs0) (k := a) (by omega)
            obtain ⟨z, hz⟩ := get_of_lt (xs := addH b0 xs0 ys0) (k := a) (by omega)
            obtain ⟨q1, q2, q3⟩ := HG8.out a x z hx hz
            obtain ⟨ad4, rfl, had4, _, hc4⟩ := ((HH.out.get 7 rfl)).at' (holdingRows_get hx)
            obtain ⟨ad5, rfl, had5, _, hc5⟩ := ((HH.out.get 4 rfl)).at' (holdingRows_get hz)
            obtain ⟨_, _, _, x3, _, x5, x6⟩ := Holding.cells hc4
            obtain ⟨_, _, _, z3, _, z5, z6⟩ := Holding.cells hc5
            have d0 := fun y : Past wr => Past.cell x3 y
            have d1 := fun y : Past wr => Past.cell x5 y
            have d2 := fun y : Past wr => Past.cell x6 y
            have d3 := fun y : Past wr => Past.cell z3 y
            have d4 := fun y : Past wr => Past.cell z5 y
            have d5 := fun y : Past wr => Past.cell z6 y
            have hai : (a : Int) < (k0 : Int) := by omega
            have r1 : decide (z.sum < x.sum) = false := by simp; omega
            have r2 : (z.count != x.count) = false := by simp [q2]
            have r3 : (z.year != x.year) = false := by simp [q3]
            clear hx hz q1 q2 q3 hc4 hc5 x3 x5 x6 z3 z5 z6 hlt
            go_wp2
            refine wp_region_past (by kernel_rfl) (by kernel_rfl) ?_
            repeat (go_big_quiet_step (fail))
            refine wpQuiet_nil ?_
            rintro _ ⟨y, rfl⟩
            go_wp2
            go_roundw
            case rel => exact ⟨a + 1, by omega, by go_num, hb.trans (y.2.mono hb.size)⟩
            case measure => simp [intOf]; omega
          · have hai : ¬ (a : Int) < (k0 : Int) := by omega
            clear hlt ha
            have p0 : wr.cell? ⟨g0_0, 0, none⟩ = some (.int .i64 b0.first) := Rd.bcell (HH.out.get 5 rfl) 0 rfl
            have p1 : wr.cell? ⟨g0_0, 1, none⟩ = some (.slice A0 n0 c0) := Rd.bcell (HH.out.get 5 rfl) 1 rfl
            have p2 : wr.cell? ⟨g0_0, 2, none⟩ = some (.int .i64 b0.rate) := Rd.bcell (HH.out.get 5 rfl) 2 rfl
            go_wp2_with fail
            refine (laws_sum_any Y0 m0 f0 ys0 _ hyl0 (by omega) (HH.out.get 6 rfl) HSS.out).mono ?_
            rintro e w' ⟨rfl, rfl⟩
            have hLe := HLE.out
            go_wp2_with fail
            refine (impl_IsPortfolio_any b0 A0 n0 c0 A1 k0 c1 (addH b0 xs0 ys0) _ (HF0.out.bf.basT (HH.out.get 8 rfl)) g9 hs1 (HH.out.get 4 rfl) (port_fits HG7.out)).mono ?_
            rw [HG7.out]
            rintro e w' ⟨rfl, hb⟩
            replace HB := Lib.hid (below_all HB.out hb)
            go_wp2_with fail
            go_ret
            exact ⟨rfl, HB.out⟩
set_option maxRecDepth 100000 in
theorem lifted (os : Os) (started : os.Started) (H : Type) (enc : TypeId × Value → H) :
    ReturnsInHanded {} Try.checked os 3 .any (Rows.fnAdditionsSpec.pre6 enc Try.prog Try.f3 Rows.fnAdditionsRow.domain false) (Rows.fnAdditionsSpec.post enc Try.prog Try.f3 false true false false) := by
  refine law_lifted os started H enc 4 (by kernel_rfl) Try.func3
    (ChangeSpec.witness6 (enc := enc) (C := Try.checked) false ⟨#[], #[.slice none 0 0], []⟩ 8 (by kernel_rfl) (by kernel_rfl) (by kernel_rfl) (by kernel_rfl)) rfl rfl Try.underlying4
    (by rw [Try.params3]; simp only [List.forall_mem_cons]; exact ⟨⟨by kernel_rfl, of_decide_eq_true (by kernel_rfl)⟩, by simp⟩) (fun ds hl => by
      match ds, hl with
      | [d0], _ => rfl) ?_
  intro W base args ds p hval hA
  rw [Try.params3] at hA hval
  obtain ⟨v0, vs0, d0, ds0, p0, q0, hargs, rfl, rfl, h0, rr0⟩ := trodAll_cons hA
  obtain ⟨rfl, rfl, rfl⟩ := trodAll_nil rr0
  obtain rfl : args = #[v0] := by cases args; simp_all
  obtain ⟨A0, n0, c0, rfl⟩ := okWide_slice Try.underlying22 (hval 0 22 v0 rfl rfl)
  obtain ⟨fu0, ho0⟩ := h0
  obtain ⟨bs, hbl, hby, hRd, hnm⟩ := open_code Try.underlying22 Try.underlying5 (by kernel_rfl) ho0
  exact walk ⟨A0, n0, c0, bs⟩ hbl hby hnm W hRd
theorem proved : Rows.FnAdditionsSaid :=
  OpenClaim.holds_of_wide 3 Try.f3 rfl rfl rfl rfl rfl rfl rfl ⟨rfl, rfl, rfl, rfl, rfl⟩ rfl rfl rfl rfl rfl (by kernel_rfl) Try.func3 (by kernel_rfl)
    (of_decide_eq_true (by kernel_rfl)) (by unfold Func.isWrapper; first | (rw [if_pos (by decide +kernel)]; kernel_rfl) | (rw [if_neg (by decide +kernel)]; exact ⟨rfl, rfl⟩))
    (fun os started H enc _ => lifted os started H enc)
end fnAdditions
end Go.Proofs.Ytbjdbpdgacfcpaa
