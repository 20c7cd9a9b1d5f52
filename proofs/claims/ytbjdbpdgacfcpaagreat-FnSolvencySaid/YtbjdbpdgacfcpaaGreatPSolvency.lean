/- The law on solvency: missing money makes a fund enough, and no scenario requires more than the worst one. No condition. -/
import Derived.Test.YtbjdbpdgacfcpaaGreatK0
import Derived.Test.YtbjdbpdgacfcpaaGreatK1
import Derived.Test.YtbjdbpdgacfcpaaGreatK17
import Derived.Test.YtbjdbpdgacfcpaaGreatK19
import Derived.Test.YtbjdbpdgacfcpaaGreatK20
namespace Go.Proofs.YtbjdbpdgacfcpaaGreat
open Go.ChangeShapes Go.WideShapes Go.ChangeAt Go.RowKit Go.Deep
namespace fnSolvency
set_option maxRecDepth 100000 in
set_option maxHeartbeats 8000000 in
theorem walk (K : Code) (hlen : K.bs.length = K.n) (hbyte : ∀ x ∈ K.bs, 0 ≤ x ∧ x ≤ 255) (hmax : K.n ≤ 9223372036854775807) (w : World) (hX : Rd w w.heap.size K.A 1 (byteRows K.bs)) :
    Calls Tryz.prog 4 #[.slice K.A K.n K.c] w fun e w' => e = .returned (.bool true) ∧ Below w.heap.size w w' := by
  by_cases hbig : 4096 < K.n
  · have hd : decide (4096 < K.n) = true := by simpa using hbig
    clear hX hbyte hlen
    go_enter Tryz.func4, Tryz.ntmps4
    go_wp2_with (go_at_call 8; refine (laws_big_any K.A K.n K.c _ (by omega)).mono ?_; rw [hd]; rintro e w' ⟨rfl, rfl⟩)
    go_ret
    exact ⟨rfl, Below.refl _ _⟩
  have hd : decide (4096 < K.n) = false := by simpa using hbig
  have hK : K.Ok := ⟨hlen, by omega, hbyte⟩
  have HH := Lib.hid ((Held.nil w).snoc hX)
  have HB := Lib.hid (Below.refl w.heap.size w)
  clear hX hbyte hlen hbig
  go_enter Tryz.func4, Tryz.ntmps4
  go_wp2_with (go_at_call 8; refine (laws_big_any K.A K.n K.c _ (by omega)).mono ?_; rw [hd]; rintro e w' ⟨rfl, rfl⟩)
  refine (spec_DrawMissingMoney_any K hK _ (HH.out.get 0 rfl)).mono ?_
  rintro e w1 ⟨b0, A0, n0, c0, H0, k0, e0, xs0, r0, d0, f0, rfl, hP, hrd, hf0, hb⟩
  have HF0 := Lib.hid hP.pf
  have hxl0 := HF0.out.xlen
  have hkl0 := HF0.out.len
  have HS0 := Lib.hid (scen_fit2 hrd)
  have hf0b : In64 f0 := by unfold In64; omega
  replace HB := Lib.hid (below_all HB.out hb)
  replace HH := Lib.hid (((HH.out.past hb).cons hP.liv.rd).cons hP.res.rd)
  clear hb
  clear hP hrd
  obtain ⟨hb, hr0, hr1⟩ := box2 (w := w1) (tx := 28) (ty := 31) (X := [.int .i64 b0.first, .slice A0 n0 c0, .int .i64 b0.rate]) (Y := [.int .i64 r0, .int .i64 d0])
  replace HB := Lib.hid (below_all HB.out hb)
  replace HH := Lib.hid (((HH.out.past hb).cons hr0).cons hr1)
  clear hb hr0 hr1
  have HL_bx0 := Lib.hid (Rd.box (HH.out.get 1 rfl))
  have HL_sx0 := Lib.hid (Rd.box (HH.out.get 0 rfl))
  go_wp2_with (first | (refine wpList_load_agg rfl 28 _ rfl ⟨w1.heap.size, 0, none⟩ rfl [.int .i64 b0.first, .slice A0 n0 c0, .int .i64 b0.rate] HL_bx0.out _ Tryz.underlying28 rfl Bas.size ?_) | (refine wpList_load_agg rfl 31 _ rfl ⟨w1.heap.size + 1, 0, none⟩ rfl [.int .i64 r0, .int .i64 d0] HL_sx0.out _ Tryz.underlying31 rfl Scenario.size ?_))
  clear HL_bx0 HL_sx0
  generalize ((w1.alloc (.cells #[.int .i64 b0.first, .slice A0 n0 c0, .int .i64 b0.rate] 28)).alloc (.cells #[.int .i64 r0, .int .i64 d0] 31)) = v0 at HB HH ⊢
  generalize w1.heap.size + 1 = g0_1 at HH ⊢
  generalize w1.heap.size = g0_0 at HH ⊢
  refine (impl_MissingMoney_any b0 A0 n0 c0 H0 k0 e0 xs0 ⟨r0, d0⟩ f0 _ (HF0.out.bf.basT (HH.out.get 3 rfl)) hxl0 (by omega) (HH.out.get 2 rfl) HF0.out.fits HS0.out hf0b).mono ?_
  rintro e w2 ⟨rfl, hb⟩
  replace HB := Lib.hid (below_all HB.out hb)
  replace HH := Lib.hid (HH.out.past hb)
  clear hb
  have HL_bx0 := Lib.hid (Rd.box (HH.out.get 1 rfl))
  have HL_sx0 := Lib.hid (Rd.box (HH.out.get 0 rfl))
  go_wp2_with (first | (refine wpList_load_agg rfl 28 _ rfl ⟨g0_0, 0, none⟩ rfl [.int .i64 b0.first, .slice A0 n0 c0, .int .i64 b0.rate] HL_bx0.out _ Tryz.underlying28 rfl Bas.size ?_) | (refine wpList_load_agg rfl 31 _ rfl ⟨g0_1, 0, none⟩ rfl [.int .i64 r0, .int .i64 d0] HL_sx0.out _ Tryz.underlying31 rfl Scenario.size ?_))
  clear HL_bx0 HL_sx0
  refine (spec_MissingMoney_any b0 A0 n0 c0 H0 k0 e0 xs0 ⟨r0, d0⟩ f0 _ (HF0.out.bf.basT (HH.out.get 3 rfl)) hxl0 (by omega) (HH.out.get 2 rfl) HF0.out.fits HS0.out hf0b).mono ?_
  rintro e w3 ⟨rfl, hb⟩
  replace HB := Lib.hid (below_all HB.out hb)
  replace HH := Lib.hid (HH.out.past hb)
  clear hb
  have HL_bx0 := Lib.hid (Rd.box (HH.out.get 1 rfl))
  have HL_sx0 := Lib.hid (Rd.box (HH.out.get 0 rfl))
  go_wp2_with (first | (refine wpList_load_agg rfl 28 _ rfl ⟨g0_0, 0, none⟩ rfl [.int .i64 b0.first, .slice A0 n0 c0, .int .i64 b0.rate] HL_bx0.out _ Tryz.underlying28 rfl Bas.size ?_) | (refine wpList_load_agg rfl 31 _ rfl ⟨g0_1, 0, none⟩ rfl [.int .i64 r0, .int .i64 d0] HL_sx0.out _ Tryz.underlying31 rfl Scenario.size ?_))
  clear HL_bx0 HL_sx0
  refine (impl_SolvencyRate_any b0 A0 n0 c0 H0 k0 e0 xs0 ⟨r0, d0⟩ f0 _ (HF0.out.bf.basT (HH.out.get 3 rfl)) hxl0 (by omega) (HH.out.get 2 rfl) HF0.out.fits HS0.out hf0b).mono ?_
  rintro e w4 ⟨rfl, hb⟩
  replace HB := Lib.hid (below_all HB.out hb)
  replace HH := Lib.hid (HH.out.past hb)
  clear hb
  have HL_bx0 := Lib.hid (Rd.box (HH.out.get 1 rfl))
  have HL_sx0 := Lib.hid (Rd.box (HH.out.get 0 rfl))
  go_wp2_with (first | (refine wpList_load_agg rfl 28 _ rfl ⟨g0_0, 0, none⟩ rfl [.int .i64 b0.first, .slice A0 n0 c0, .int .i64 b0.rate] HL_bx0.out _ Tryz.underlying28 rfl Bas.size ?_) | (refine wpList_load_agg rfl 31 _ rfl ⟨g0_1, 0, none⟩ rfl [.int .i64 r0, .int .i64 d0] HL_sx0.out _ Tryz.underlying31 rfl Scenario.size ?_))
  clear HL_bx0 HL_sx0
  refine (spec_SolvencyRate_any b0 A0 n0 c0 H0 k0 e0 xs0 ⟨r0, d0⟩ f0 _ (HF0.out.bf.basT (HH.out.get 3 rfl)) hxl0 (by omega) (HH.out.get 2 rfl) HF0.out.fits HS0.out hf0b).mono ?_
  rintro e w5 ⟨rfl, hb⟩
  replace HB := Lib.hid (below_all HB.out hb)
  replace HH := Lib.hid (HH.out.past hb)
  clear hb
  go_wp2_with fail
  refine (spec_DrawWorstScenario_any K hK _ (HH.out.get 4 rfl)).mono ?_
  rintro e w6 ⟨b1, A1, n1, c1, H1, k1, e1, xs1, L1, m1, l1, ss1, rfl, hP, hR, hm1, hfs1, hb⟩
  have HF1 := Lib.hid hP.pf
  have hxl1 := HF1.out.xlen
  have hkl1 := HF1.out.len
  have hsl1 : ss1.length = m1 := by have := hR.len; rwa [scenarioRows_length] at this
  replace HB := Lib.hid (below_all HB.out hb)
  replace HH := Lib.hid ((((HH.out.past hb).cons hP.liv.rd).cons hP.res.rd).cons hR.rd)
  clear hb
  clear hR
  clear hP
  obtain ⟨hb, hr0⟩ := box1 (w := w6) (tx := 28) (X := [.int .i64 b1.first, .slice A1 n1 c1, .int .i64 b1.rate])
  replace HB := Lib.hid (below_all HB.out hb)
  replace HH := Lib.hid ((HH.out.past hb).cons hr0)
  clear hb hr0
  have HL_bx1 := Lib.hid (Rd.box (HH.out.get 0 rfl))
  go_wp2_with (refine wpList_load_agg rfl 28 _ rfl ⟨w6.heap.size, 0, none⟩ rfl [.int .i64 b1.first, .slice A1 n1 c1, .int .i64 b1.rate] HL_bx1.out _ Tryz.underlying28 rfl Bas.size ?_)
  clear HL_bx1
  generalize (w6.alloc (.cells #[.int .i64 b1.first, .slice A1 n1 c1, .int .i64 b1.rate] 28)) = v1 at HB HH ⊢
  generalize w6.heap.size = g1_0 at HH ⊢
  refine (impl_WorstScenario_any b1 A1 n1 c1 H1 k1 e1 xs1 L1 m1 l1 ss1 _ (HF1.out.bf.basT (HH.out.get 3 rfl)) hxl1 (by omega) (HH.out.get 2 rfl) HF1.out.fits hsl1 (by omega) (HH.out.get 1 rfl) hfs1).mono ?_
  rintro e w7 ⟨rfl, hb⟩
  replace HB := Lib.hid (below_all HB.out hb)
  replace HH := Lib.hid (HH.out.past hb)
  clear hb
  have HL_bx1 := Lib.hid (Rd.box (HH.out.get 0 rfl))
  go_wp2_with (refine wpList_load_agg rfl 28 _ rfl ⟨g1_0, 0, none⟩ rfl [.int .i64 b1.first, .slice A1 n1 c1, .int .i64 b1.rate] HL_bx1.out _ Tryz.underlying28 rfl Bas.size ?_)
  clear HL_bx1
  refine (spec_WorstScenario_any b1 A1 n1 c1 H1 k1 e1 xs1 L1 m1 l1 ss1 _ (HF1.out.bf.basT (HH.out.get 3 rfl)) hxl1 (by omega) (HH.out.get 2 rfl) HF1.out.fits hsl1 (by omega) (HH.out.get 1 rfl) hfs1).mono ?_
  rintro e w8 ⟨rfl, hb⟩
  replace HB := Lib.hid (below_all HB.out hb)
  replace HH := Lib.hid (HH.out.past hb)
  clear hb
  go_wp2_with fail
  refine (spec_DrawMostDeaths_any K hK _ (HH.out.get 8 rfl)).mono ?_
  rintro e w9 ⟨b2, A2, n2, c2, H2, k2, e2, xs2, f2, rfl, hP, hf2, hb⟩
  have HF2 := Lib.hid hP.pf
  have hxl2 := HF2.out.xlen
  have hkl2 := HF2.out.len
  replace HB := Lib.hid (below_all HB.out hb)
  replace HH := Lib.hid (((HH.out.past hb).cons hP.liv.rd).cons hP.res.rd)
  clear hb
  clear hP
  obtain ⟨hb, hr0⟩ := box1 (w := w9) (tx := 28) (X := [.int .i64 b2.first, .slice A2 n2 c2, .int .i64 b2.rate])
  replace HB := Lib.hid (below_all HB.out hb)
  replace HH := Lib.hid ((HH.out.past hb).cons hr0)
  clear hb hr0
  have HL_bx2 := Lib.hid (Rd.box (HH.out.get 0 rfl))
  go_wp2_with (refine wpList_load_agg rfl 28 _ rfl ⟨w9.heap.size, 0, none⟩ rfl [.int .i64 b2.first, .slice A2 n2 c2, .int .i64 b2.rate] HL_bx2.out _ Tryz.underlying28 rfl Bas.size ?_)
  clear HL_bx2
  generalize (w9.alloc (.cells #[.int .i64 b2.first, .slice A2 n2 c2, .int .i64 b2.rate] 28)) = v2 at HB HH ⊢
  generalize w9.heap.size = g2_0 at HH ⊢
  refine (impl_MostDeaths_any b2 A2 n2 c2 H2 k2 e2 xs2 f2 _ (HF2.out.bf.basT (HH.out.get 2 rfl)) hxl2 (by omega) (HH.out.get 1 rfl) HF2.out.fits hf2).mono ?_
  rintro e w10 ⟨rfl, hb⟩
  replace HB := Lib.hid (below_all HB.out hb)
  replace HH := Lib.hid (HH.out.past hb)
  clear hb
  have HL_bx2 := Lib.hid (Rd.box (HH.out.get 0 rfl))
  go_wp2_with (refine wpList_load_agg rfl 28 _ rfl ⟨g2_0, 0, none⟩ rfl [.int .i64 b2.first, .slice A2 n2 c2, .int .i64 b2.rate] HL_bx2.out _ Tryz.underlying28 rfl Bas.size ?_)
  clear HL_bx2
  refine (spec_MostDeaths_any b2 A2 n2 c2 H2 k2 e2 xs2 f2 _ (HF2.out.bf.basT (HH.out.get 2 rfl)) hxl2 (by omega) (HH.out.get 1 rfl) HF2.out.fits hf2).mono ?_
  rintro e w11 ⟨rfl, hb⟩
  replace HB := Lib.hid (below_all HB.out hb)
  replace HH := Lib.hid (HH.out.past hb)
  clear hb
  clear hd hmax
  generalize hwi : (worstP b1 xs1 ss1).1 = wi
  generalize hwn : (worstP b1 xs1 ss1).2.1 = N
  generalize hwz : (worstP b1 xs1 ss1).2.2 = wcode
  generalize hmd : (mostP b2 xs2 f2).1 = D
  generalize hmz : (mostP b2 xs2 f2).2 = mcode
  have HWG := Lib.hid (@worst_good b1 xs1 ss1)
  have HMG := Lib.hid (@most_good b2 xs2 f2)
  rw [hwi, hwn, hwz] at HWG
  rw [hmd, hmz] at HMG
  clear hwi hwn hwz hmd hmz
  go_upto_if 166 with fail
  go_cut [] (fun wx => Hid (Below w11.heap.size w11 wx))
  case first =>
    as_aux_lemma =>
      have HB0 := Lib.hid (Below.refl w11.heap.size w11)
      cases hcd : (mcode == 0)
      · skip
        go_wp2_with fail
        go_meet
        case rel => exact HB0
      · skip
        obtain ⟨g1, g2, g3, g4⟩ := HMG.out (show mcode = 0 by simpa using hcd)
        have hpz := pair_zero g1
        generalize (reqP b2 xs2 ⟨0, D⟩).1 = V at g2 hpz
        have HPZ := Lib.hid hpz
        have hdv : decide (f2 < V) = false := by simp; omega
        clear g1 hpz
        have HL_bx2 := Lib.hid (Rd.box (HH.out.get 0 rfl))
        go_wp2_with (refine wpList_load_agg rfl 28 _ rfl ⟨g2_0, 0, none⟩ rfl [.int .i64 b2.first, .slice A2 n2 c2, .int .i64 b2.rate] HL_bx2.out _ Tryz.underlying28 rfl Bas.size ?_)
        clear HL_bx2
        refine (impl_RequiredReserve_any b2 A2 n2 c2 H2 k2 e2 xs2 ⟨0, D⟩ _ (HF2.out.bf.basT (HH.out.get 2 rfl)) hxl2 (by omega) (HH.out.get 1 rfl) HF2.out.fits (scen_fit2 (by omega))).mono ?_
        rw [HPZ.out]
        rintro e wz ⟨rfl, hbz⟩
        have HBZ := Lib.hid (below_all HB0.out hbz)
        go_wp2_with fail
        go_meet
        case rel => exact HBZ
  case rest =>
    as_aux_lemma =>
      replace HB := Lib.hid (below_all HB.out hcut.out)
      replace HH := Lib.hid (HH.out.past hcut.out)
      clear hcut
      generalize hwq : wc = wq166 at HB HH ⊢
      clear hwq
      go_upto_if 183 with fail
      go_cut [] (fun wx => Hid (Below wq166.heap.size wq166 wx))
      case first =>
        as_aux_lemma =>
          have HB0 := Lib.hid (Below.refl wq166.heap.size wq166)
          cases hcw : (wcode == 0)
          · skip
            go_wp2_with fail
            go_meet
            case rel => exact HB0
          · skip
            obtain ⟨g1, ⟨g2, g3⟩, j, s, g4, g5, g6⟩ := HWG.out (show wcode = 0 by simpa using hcw)
            subst g4
            have hjm : j < m1 := by rw [← hsl1]; exact (List.getElem?_eq_some_iff.1 g5).1
            have hji : (j : Int) < (m1 : Int) := by omega
            have hm10 : 1 ≤ m1 := by omega
            have hm20 : m1 ≤ 20 := by omega
            have hm1i : (0 : Int) < (m1 : Int) := by omega
            have HG1 := Lib.hid g1
            have HG6 := Lib.hid g6
            obtain ⟨ad, hL1, had, _, hc5⟩ := ((HH.out.get 4 rfl)).at' (scenarioRows_get g5)
            have hfj := hfs1 s (List.mem_of_getElem? g5)
            have HFJ := Lib.hid hfj
            have HFS := Lib.hid hfs1
            have HSL := Lib.hid hsl1
            clear g1 g2 g3 g5 g6 hfj hjm
            subst hL1
            have hcS := Lib.hid (Past.cells' hc5)
            have hcB := Lib.hid (Past.cells' (Rd.box (HH.out.get 3 rfl)))
            clear hc5
            unfold Scenario.row at hcS
            have HLV := Lib.hid (HH.out.get 6 rfl)
            have HHO := Lib.hid (HH.out.get 5 rfl)
            go_upto_region 21 with fail
            refine wp_region_past (by kernel_rfl) (by kernel_rfl) ?_
            repeat (first | (go_big_quiet_want; (first | (first | (refine quiet_load_agg 31 _ rfl (ad.add (j * 2)) rfl [.int .i64 s.rate, .int .i64 s.death] hcS.out _ Tryz.underlying31 rfl Scenario.size ?_) | (refine quiet_load_agg 28 _ rfl ⟨g1_0, 0, none⟩ rfl [.int .i64 b1.first, .slice A1 n1 c1, .int .i64 b1.rate] hcB.out _ Tryz.underlying28 rfl Bas.size ?_))); go_simp; go_big_quiet_on) | go_big_quiet_step ((go_at_call 10; exact past_call ((impl_RequiredReserve_any b1 A1 n1 c1 H1 k1 e1 xs1 s _ (HF1.out.bf.basT (HLV.out.past (Subtype.property _))) hxl1 (by omega) (HHO.out.past (Subtype.property _)) HF1.out.fits HFJ.out).mono (by rw [HG6.out]; exact fun _ _ h => h)))))
            refine wpQuiet_nil ?_
            rintro _ ⟨y, rfl⟩
            replace HB0 := Lib.hid (below_all HB0.out y.2)
            replace HH := Lib.hid (HH.out.past y.2)
            clear hcS hcB HLV HHO
            obtain ⟨Wy, hWy⟩ : ∃ Wy, Wy = y.1 := ⟨_, rfl⟩
            rw [← hWy] at HB0 HH ⊢
            clear hWy y had
            go_upto_region 22 with fail
            have p0 : Wy.cell? ⟨g1_0, 0, none⟩ = some (.int .i64 b1.first) := Rd.bcell (HH.out.get 3 rfl) 0 rfl
            have p1 : Wy.cell? ⟨g1_0, 1, none⟩ = some (.slice A1 n1 c1) := Rd.bcell (HH.out.get 3 rfl) 1 rfl
            have p2 : Wy.cell? ⟨g1_0, 2, none⟩ = some (.int .i64 b1.rate) := Rd.bcell (HH.out.get 3 rfl) 2 rfl
            have HHD := Lib.hid (HH.out.past ((Below.refl Wy.heap.size Wy).drew))
            go_region_law (first | (go_simp; go_at_call 34; refine (laws_roll_any K hK 2101 _ (by first | exact (HH.out.get 11 rfl) | exact (HHD.out.get 11 rfl))).mono ?_; rintro e wA ⟨g, rfl, hgA, ⟨hh, hD⟩, hbA⟩; have HBA := Lib.hid (show Below Wy.heap.size Wy wA from by first | exact hbA | exact ((Below.refl Wy.heap.size Wy).drew).trans hbA); have HHA := Lib.hid (HH.out.past HBA.out); have HDA := Lib.hid hD; have HGA := Lib.hid (show Wy.heap.size ≤ g from hgA); clear hD hbA hgA; have p0 : wA.cell? ⟨g1_0, 0, none⟩ = some (.int .i64 b1.first) := Rd.bcell (HHA.out.get 3 rfl) 0 rfl; have p1 : wA.cell? ⟨g1_0, 1, none⟩ = some (.slice A1 n1 c1) := Rd.bcell (HHA.out.get 3 rfl) 1 rfl; have p2 : wA.cell? ⟨g1_0, 2, none⟩ = some (.int .i64 b1.rate) := Rd.bcell (HHA.out.get 3 rfl) 2 rfl) | (go_simp; go_at_call 35; refine (laws_below_any K hK g hh (m1 : Int) _ (((HH.out.get 11 rfl).below HBA.out).up HGA.out) HDA.out (by omega) (by omega)).mono ?_; rintro e wB ⟨x, rfl, ⟨hx0, hx1⟩, hbB⟩; have HBB := Lib.hid (HBA.out.trans (hbB.mono HGA.out)); clear hbB; obtain ⟨q, rfl⟩ := Int.eq_ofNat_of_zero_le hx0; have hqm : q < m1 := (by omega); obtain ⟨s2, hs2⟩ := get_of_lt (xs := ss1) (k := q) (by have h9 := HSL.out; omega); have HQ2 := Lib.hid (HG1.out q s2 hs2); have HF2 := Lib.hid (HFS.out s2 (List.mem_of_getElem? hs2)); have HHB := Lib.hid (HH.out.past HBB.out); obtain ⟨ad2, hL2, had2, _, hc2⟩ := ((HHB.out.get 4 rfl)).at' (scenarioRows_get hs2); have e2 := Option.some.inj hL2; subst e2; have u0 : wB.cell? (ad.add (q * 2)) = some (.int .i64 s2.rate) := (by have := hc2 0 _ rfl; rwa [Addr.add_zero'] at this); have u1 : wB.cell? ⟨(ad.add (q * 2)).block, (ad.add (q * 2)).off + 1, none⟩ = some (.int .i64 s2.death) := hc2 1 _ rfl; clear hc2 hs2 hL2 hx0 hx1; have p0 : wB.cell? ⟨g1_0, 0, none⟩ = some (.int .i64 b1.first) := Rd.bcell (HHB.out.get 3 rfl) 0 rfl; have p1 : wB.cell? ⟨g1_0, 1, none⟩ = some (.slice A1 n1 c1) := Rd.bcell (HHB.out.get 3 rfl) 1 rfl; have p2 : wB.cell? ⟨g1_0, 2, none⟩ = some (.int .i64 b1.rate) := Rd.bcell (HHB.out.get 3 rfl) 2 rfl) | (go_simp; go_at_call 10; refine (impl_RequiredReserve_any b1 A1 n1 c1 H1 k1 e1 xs1 s2 _ (HF1.out.bf.basT (HHB.out.get 6 rfl)) hxl1 (by omega) (HHB.out.get 5 rfl) HF1.out.fits HF2.out).mono ?_; rw [pair_zero HQ2.out.1]; rintro e wC ⟨rfl, hbC⟩))
            all_goals
              have hdV : decide (N < (reqP b1 xs1 s2).1) = false := by have := HQ2.out.2; simp; omega
              have HBC := Lib.hid (below_all HB0.out (HBB.out.trans (hbC.mono HBB.out.size)))
              go_wp2_with fail
              go_meet
              case rel => exact HBC
      case rest =>
        as_aux_lemma =>
          replace HB := Lib.hid (below_all HB.out hcut.out)
          replace HH := Lib.hid (HH.out.past hcut.out)
          clear hcut
          generalize hwq : wc = wq183 at HB HH ⊢
          clear hwq
          cases hcm : ((missP b0 xs0 ⟨r0, d0⟩ f0).2 == 0)
          · skip
            have hcm2 : ((missP b0 xs0 ⟨r0, d0⟩ f0).2 != 0) = true := by simpa [bne] using hcm
            go_wp2_with fail
            go_ret
            exact ⟨rfl, HB.out⟩
          · skip
            have hcm2 : ((missP b0 xs0 ⟨r0, d0⟩ f0).2 != 0) = false := by simpa [bne] using hcm
            obtain ⟨q1, q2, q3⟩ := miss_good (show (missP b0 xs0 ⟨r0, d0⟩ f0).2 = 0 by simpa using hcm)
            obtain ⟨⟨y0, y1⟩, _⟩ := reqIn_bound b0 xs0 ⟨r0, d0⟩ true
            have hpz := pair_zero q1
            have HSG := Lib.hid (@solv_good b0 xs0 ⟨r0, d0⟩ f0)
            change 0 ≤ (reqP b0 xs0 ⟨r0, d0⟩).1 at y0
            change (reqP b0 xs0 ⟨r0, d0⟩).1 ≤ 4000000000000000 at y1
            generalize hV : (reqP b0 xs0 ⟨r0, d0⟩).1 = V at q2 y0 y1 hpz HSG
            have HPZ := Lib.hid hpz
            obtain ⟨q4, q5⟩ := q3
            have hM : ((missP b0 xs0 ⟨r0, d0⟩ f0).1 == max 0 (V - f0)) = true := by rw [q2]; simp
            have HV := Lib.hid hV
            clear hV hpz q1 q2
            have HL_bx0 := Lib.hid (Rd.box (HH.out.get 8 rfl))
            have HL_sx0 := Lib.hid (Rd.box (HH.out.get 7 rfl))
            go_wp2_with (first | (refine wpList_load_agg rfl 28 _ rfl ⟨g0_0, 0, none⟩ rfl [.int .i64 b0.first, .slice A0 n0 c0, .int .i64 b0.rate] HL_bx0.out _ Tryz.underlying28 rfl Bas.size ?_) | (refine wpList_load_agg rfl 31 _ rfl ⟨g0_1, 0, none⟩ rfl [.int .i64 r0, .int .i64 d0] HL_sx0.out _ Tryz.underlying31 rfl Scenario.size ?_))
            clear HL_bx0 HL_sx0
            refine (impl_RequiredReserve_any b0 A0 n0 c0 H0 k0 e0 xs0 ⟨r0, d0⟩ _ (HF0.out.bf.basT (HH.out.get 10 rfl)) hxl0 (by omega) (HH.out.get 9 rfl) HF0.out.fits HS0.out).mono ?_
            rw [HPZ.out]
            rintro e w12 ⟨rfl, hb⟩
            replace HB := Lib.hid (below_all HB.out hb)
            replace HH := Lib.hid (HH.out.past hb)
            clear hb
            cases hcs : ((solvP b0 xs0 ⟨r0, d0⟩ f0).2 == 0)
            · skip
              have hcs2 : ((solvP b0 xs0 ⟨r0, d0⟩ f0).2 != 0) = true := by simpa [bne] using hcs
              go_wp2_with fail
              go_ret
              exact ⟨rfl, HB.out⟩
            · skip
              have hcs2 : ((solvP b0 xs0 ⟨r0, d0⟩ f0).2 != 0) = false := by simpa [bne] using hcs
              obtain ⟨s1, ⟨s2, s3⟩, s4⟩ := HSG.out (show (solvP b0 xs0 ⟨r0, d0⟩ f0).2 = 0 by simpa using hcs)
              clear s1
              generalize (solvP b0 xs0 ⟨r0, d0⟩ f0).1 = R at s2 s3 s4 ⊢
              have s5 : 0 ≤ R * V := Int.mul_nonneg s2 y0
              have s6 : decide (R * V ≤ 1000 * f0) = true := by simpa using s4
              go_wp2_with fail
              go_ret
              exact ⟨rfl, HB.out⟩
set_option maxRecDepth 100000 in
theorem lifted (os : Os) (started : os.Started) (H : Type) (enc : TypeId × Value → H) :
    ReturnsInHanded {} Tryz.checked os 4 .any (Rows.fnSolvencySpec.pre6 enc Tryz.prog Tryz.f4 Rows.fnSolvencyRow.domain false) (Rows.fnSolvencySpec.post enc Tryz.prog Tryz.f4 false true false false) := by
  refine law_lifted os started H enc 4 (by kernel_rfl) Tryz.func4
    (ChangeSpec.witness6 (enc := enc) (C := Tryz.checked) false ⟨#[], #[.slice none 0 0], []⟩ 8 (by kernel_rfl) (by kernel_rfl) (by kernel_rfl) (by kernel_rfl)) rfl rfl Tryz.underlying4
    (by rw [Tryz.params4]; simp only [List.forall_mem_cons]; exact ⟨⟨by kernel_rfl, of_decide_eq_true (by kernel_rfl)⟩, by simp⟩) (fun ds hl => by
      match ds, hl with
      | [d0], _ => rfl) ?_
  intro W base args ds p hval hA
  rw [Tryz.params4] at hA hval
  obtain ⟨v0, vs0, d0, ds0, p0, q0, hargs, rfl, rfl, h0, rr0⟩ := trodAll_cons hA
  obtain ⟨rfl, rfl, rfl⟩ := trodAll_nil rr0
  obtain rfl : args = #[v0] := by cases args; simp_all
  obtain ⟨A0, n0, c0, rfl⟩ := okWide_slice Tryz.underlying22 (hval 0 22 v0 rfl rfl)
  obtain ⟨fu0, ho0⟩ := h0
  obtain ⟨bs, hbl, hby, hRd, hnm⟩ := open_code Tryz.underlying22 Tryz.underlying5 (by kernel_rfl) ho0
  exact walk ⟨A0, n0, c0, bs⟩ hbl hby hnm W hRd
theorem proved : Rows.FnSolvencySaid :=
  OpenClaim.holds_of_wide 4 Tryz.f4 rfl rfl rfl rfl rfl rfl rfl ⟨rfl, rfl, rfl, rfl, rfl⟩ rfl rfl rfl rfl rfl (by kernel_rfl) Tryz.func4 (by kernel_rfl)
    (of_decide_eq_true (by kernel_rfl)) (by unfold Func.isWrapper; first | (rw [if_pos (by decide +kernel)]; kernel_rfl) | (rw [if_neg (by decide +kernel)]; exact ⟨rfl, rfl⟩))
    (fun os started H enc _ => lifted os started H enc)
end fnSolvency
end Go.Proofs.YtbjdbpdgacfcpaaGreat
