/- The law on ageing: no policy is lost when a portfolio grows older, and premiums are those of the single policies. No condition. -/
import Derived.Test.YtbjdbpdgacfcpaaK0
import Derived.Test.YtbjdbpdgacfcpaaK1
import Derived.Test.YtbjdbpdgacfcpaaK13
import Derived.Test.YtbjdbpdgacfcpaaK16
import Derived.Test.YtbjdbpdgacfcpaaK18
import Derived.Test.YtbjdbpdgacfcpaaK19
import Derived.Test.YtbjdbpdgacfcpaaK20
namespace Go.Proofs.Ytbjdbpdgacfcpaa
open Go.ChangeShapes Go.WideShapes Go.ChangeAt Go.RowKit Go.Deep
namespace fnAgeing
set_option maxRecDepth 100000 in
set_option maxHeartbeats 8000000 in
theorem walk (K : Code) (hlen : K.bs.length = K.n) (hbyte : ∀ x ∈ K.bs, 0 ≤ x ∧ x ≤ 255) (hmax : K.n ≤ 9223372036854775807) (w : World) (hX : Rd w w.heap.size K.A 1 (byteRows K.bs)) :
    Calls Try.prog 7 #[.slice K.A K.n K.c] w fun e w' => e = .returned (.bool true) ∧ Below w.heap.size w w' := by
  by_cases hbig : 4096 < K.n
  · have hd : decide (4096 < K.n) = true := by simpa using hbig
    clear hX hbyte hlen
    go_enter Try.func7, Try.ntmps7
    go_wp2_with (go_at_call 8; refine (laws_big_any K.A K.n K.c _ (by omega)).mono ?_; rw [hd]; rintro e w' ⟨rfl, rfl⟩)
    go_ret
    exact ⟨rfl, Below.refl _ _⟩
  have hd : decide (4096 < K.n) = false := by simpa using hbig
  have hK : K.Ok := ⟨hlen, by omega, hbyte⟩
  have HH := Lib.hid ((Held.nil w).snoc hX)
  have HB := Lib.hid (Below.refl w.heap.size w)
  clear hX hbyte hlen hbig
  go_enter Try.func7, Try.ntmps7
  go_wp2_with (go_at_call 8; refine (laws_big_any K.A K.n K.c _ (by omega)).mono ?_; rw [hd]; rintro e w' ⟨rfl, rfl⟩)
  refine (spec_DrawAgePortfolio_any K hK _ (HH.out.get 0 rfl)).mono ?_
  rintro e w1 ⟨b0, A0, n0, c0, H0, k0, e0, xs0, Y0, m0, f0, rfl, hP, hI, hm0, hb⟩
  obtain ⟨ys0, hRY, hyb0⟩ := hI
  have HF0 := Lib.hid hP.pf
  have hxl0 := HF0.out.xlen
  have hkl0 := HF0.out.len
  have hyl0 : ys0.length = m0 := by have := hRY.len; rwa [intRows_length] at this
  have hfy : ∀ y ∈ ys0, In64 y := fun y hy => hyb0 y hy
  have hke0 : k0 ≤ e0 := res_cap hP.res
  have hyc0 : m0 ≤ f0 := res_cap hRY
  replace HB := Lib.hid (below_all HB.out hb)
  replace HH := Lib.hid ((((HH.out.past hb).cons hP.liv.rd).cons hP.res.rd).cons hRY.rd)
  clear hb
  clear hP hRY
  obtain ⟨hb, hr0⟩ := box1 (w := w1) (tx := 28) (X := [.int .i64 b0.first, .slice A0 n0 c0, .int .i64 b0.rate])
  replace HB := Lib.hid (below_all HB.out hb)
  replace HH := Lib.hid ((HH.out.past hb).cons hr0)
  clear hb hr0
  have HL_bx0 := Lib.hid (Rd.box (HH.out.get 0 rfl))
  go_wp2_with (refine wpList_load_agg rfl 28 _ rfl ⟨w1.heap.size, 0, none⟩ rfl [.int .i64 b0.first, .slice A0 n0 c0, .int .i64 b0.rate] HL_bx0.out _ Try.underlying28 rfl Bas.size ?_)
  clear HL_bx0
  generalize (w1.alloc (.cells #[.int .i64 b0.first, .slice A0 n0 c0, .int .i64 b0.rate] 28)) = v0 at HB HH ⊢
  generalize w1.heap.size = g0_0 at HH ⊢
  refine (impl_AgePortfolio_any b0 A0 n0 c0 H0 k0 e0 xs0 Y0 m0 f0 ys0 _ (HF0.out.bf.basT (HH.out.get 3 rfl)) hxl0 (by omega) (HH.out.get 2 rfl) HF0.out.fits hyl0 (by omega) (HH.out.get 1 rfl) hfy).mono ?_
  rintro e w2 ⟨A1, n1, c1, rfl, hR, hb⟩
  have hl1 : (ageP b0 xs0 ys0).1.length = n1 := by have := hR.len; rwa [holdingRows_length] at this
  have hc1 : n1 ≤ c1 := res_cap hR
  replace HB := Lib.hid (below_all HB.out hb)
  replace HH := Lib.hid ((HH.out.past hb).cons hR.rd)
  clear hb
  clear hR
  have HL_bx0 := Lib.hid (Rd.box (HH.out.get 1 rfl))
  go_wp2_with (refine wpList_load_agg rfl 28 _ rfl ⟨g0_0, 0, none⟩ rfl [.int .i64 b0.first, .slice A0 n0 c0, .int .i64 b0.rate] HL_bx0.out _ Try.underlying28 rfl Bas.size ?_)
  clear HL_bx0
  refine (spec_AgePortfolio_any b0 A0 n0 c0 H0 k0 e0 xs0 Y0 m0 f0 ys0 _ (HF0.out.bf.basT (HH.out.get 4 rfl)) hxl0 (by omega) (HH.out.get 3 rfl) HF0.out.fits hyl0 (by omega) (HH.out.get 2 rfl) hfy).mono ?_
  rintro e w3 ⟨A2, n2, c2, rfl, hR, hb⟩
  have hl2 : (ageP b0 xs0 ys0).1.length = n2 := by have := hR.len; rwa [holdingRows_length] at this
  have hc2 : n2 ≤ c2 := res_cap hR
  obtain rfl : n1 = n2 := by rw [← hl1, ← hl2]
  replace HB := Lib.hid (below_all HB.out hb)
  replace HH := Lib.hid ((HH.out.past hb).cons hR.rd)
  clear hb
  clear hR
  have hs1 : n1 ≤ 30 := by rw [← hl1]; exact ageP_small b0 xs0 ys0
  have HL_bx0 := Lib.hid (Rd.box (HH.out.get 2 rfl))
  go_wp2_with (refine wpList_load_agg rfl 28 _ rfl ⟨g0_0, 0, none⟩ rfl [.int .i64 b0.first, .slice A0 n0 c0, .int .i64 b0.rate] HL_bx0.out _ Try.underlying28 rfl Bas.size ?_)
  clear HL_bx0
  refine (impl_PremiumIncome_any b0 A0 n0 c0 H0 k0 e0 xs0 _ (HF0.out.bf.basT (HH.out.get 5 rfl)) hxl0 (by omega) (HH.out.get 4 rfl) HF0.out.fits).mono ?_
  rintro e w4 ⟨rfl, hb⟩
  replace HB := Lib.hid (below_all HB.out hb)
  replace HH := Lib.hid (HH.out.past hb)
  clear hb
  have HL_bx0 := Lib.hid (Rd.box (HH.out.get 2 rfl))
  go_wp2_with (refine wpList_load_agg rfl 28 _ rfl ⟨g0_0, 0, none⟩ rfl [.int .i64 b0.first, .slice A0 n0 c0, .int .i64 b0.rate] HL_bx0.out _ Try.underlying28 rfl Bas.size ?_)
  clear HL_bx0
  refine (spec_PremiumIncome_any b0 A0 n0 c0 H0 k0 e0 xs0 _ (HF0.out.bf.basT (HH.out.get 5 rfl)) hxl0 (by omega) (HH.out.get 4 rfl) HF0.out.fits).mono ?_
  rintro e w5 ⟨rfl, hb⟩
  replace HB := Lib.hid (below_all HB.out hb)
  replace HH := Lib.hid (HH.out.past hb)
  clear hb
  go_wp2_with fail
  refine (likeHoldings9_any A1 n1 c1 A2 c2 (ageP b0 xs0 ys0).1 _ hl1 (by omega) (HH.out.get 1 rfl) (HH.out.get 0 rfl)).mono ?_
  rintro e w6 ⟨rfl, hb⟩
  replace HB := Lib.hid (below_all HB.out hb)
  replace HH := Lib.hid (HH.out.past hb)
  clear hb
  clear hd hmax hK hl2
  cases hcd : ((incP b0 xs0).2.2 == 0)
  · skip
    have hcd2 : ((incP b0 xs0).2.2 != 0) = true := by simpa [bne] using hcd
    cases hce : ((ageP b0 xs0 ys0).2 == 0)
    · skip
      have hce2 : ((ageP b0 xs0 ys0).2 != 0) = true := by simpa [bne] using hce
      go_wp2_with fail
      go_ret
      exact ⟨rfl, HB.out⟩
    · skip
      have hce2 : ((ageP b0 xs0 ys0).2 != 0) = false := by simpa [bne] using hce
      obtain ⟨hp, g1, g2, g3, g4⟩ := age_good (show (ageP b0 xs0 ys0).2 = 0 by simpa using hce)
      have HP := Lib.hid hp
      have hmk : m0 = k0 := by rw [← hyl0, ← hxl0]; exact g1
      have HMK := Lib.hid hmk
      have HG3 := Lib.hid g3
      have HEN := Lib.hid g4
      have HS := Lib.hid (leftL_sums hp g2)
      have HDD := Lib.hid g2
      have HCS := Lib.hid (countL_sums g3)
      have HLL := Lib.hid (show (leftL b0 xs0 ys0).length = k0 by simp [leftL]; omega)
      clear hp g1 g2 g3 g4 hmk
      go_wp2_with fail
      go_loopw [20, 21] (fun s i wr => ∃ a : Nat, a ≤ k0 ∧ i = .int .i64 a ∧ s = .int .i64 ((leftL b0 xs0 ys0).take a).sum ∧ Below w6.heap.size w6 wr) (fun _ i _ => k0 - (intOf i).toNat)
      case atStart => exact ⟨0, by omega, rfl, rfl, Below.refl _ _⟩
      case round =>
        obtain ⟨a, ha, rfl, rfl, hb⟩ := hrel
        rename World => x2
        have HW := Lib.hid hb
        replace HB := Lib.hid (below_all HB.out hb)
        replace HH := Lib.hid (HH.out.past hb)
        clear hb
        by_cases hlt : a < k0
        · skip
          obtain ⟨x, hx⟩ := get_of_lt (xs := xs0) (k := a) (by omega)
          obtain ⟨ad, had2, had, _, hc⟩ := ((HH.out.get 4 rfl)).at' (holdingRows_get hx)
          subst had2
          have HX := Lib.hid hx
          have Hx := Lib.hid ((port_hold HP.out).2 x (List.mem_of_getElem? hx))
          have HPB := Lib.hid (hold_pol Hx.out)
          have HFX := Lib.hid (Holding.fits_pol (HF0.out.fits x (List.mem_of_getElem? hx))).1
          have hQP := Lib.hid (Past.cells' (Holding.pol_cells hc))
          obtain ⟨_, _, _, _, _, c5, c6⟩ := Holding.cells hc
          have hai : (a : Int) < (k0 : Int) := by omega
          have hak : (a : Int) + 1 ≤ (k0 : Int) := by omega
          clear hc hx
          obtain ⟨v, hv⟩ := get_of_lt (xs := ys0) (k := a) (by have := HMK.out; omega)
          obtain ⟨av, hav2, hav, hcv⟩ := ((HH.out.get 3 rfl)).int_at hv
          subst hav2
          have HV := Lib.hid hv
          obtain ⟨v0', v1'⟩ := dead_get HDD.out HX.out hv
          obtain ⟨⟨q0, q1⟩, HYO⟩ := hold_ok Hx.out
          have k0' : 0 ≤ x.year := HYO.k0
          have k1' : x.year ≤ durP b0 x.pol - 1 := HYO.k1
          have hdb := dur_bound HYO.toPolOk
          have ham : (a : Int) < (m0 : Int) := by have := HMK.out; omega
          have d5 := fun u : Past x2 => Past.cell c5 u
          have d6 := fun u : Past x2 => Past.cell c6 u
          have dv := fun u : Past x2 => Past.cell hcv u
          have h2 := HS.out a
          obtain ⟨b3, b4⟩ := h2
          clear c5 c6 hcv hv HYO
          have hQB := Lib.hid (Past.cells' (Rd.box (HH.out.get 2 rfl)))
          have HLV := Lib.hid (HH.out.get 5 rfl)
          go_wp2
          refine wp_region_past (by kernel_rfl) (by kernel_rfl) ?_
          repeat (first | (go_big_quiet_want; (first | (first | (refine quiet_load_agg 28 _ rfl ⟨g0_0, 0, none⟩ rfl [.int .i64 b0.first, .slice A0 n0 c0, .int .i64 b0.rate] hQB.out _ Try.underlying28 rfl Bas.size ?_) | (refine quiet_load_agg 35 _ rfl (ad.add (a * 7)) rfl [.int .i64 x.kind, .int .i64 x.age, .int .i64 x.years, .int .i64 x.sum, .int .i64 x.load] hQP.out _ Try.underlying35 rfl Policy.size ?_))); go_simp; go_big_quiet_on) | go_big_quiet_step ((go_simp; go_at_call 53; exact past_call ((impl_DurationOf_any b0 A0 n0 c0 x.pol _ (HF0.out.bf.basT (HLV.out.past (Subtype.property _))) HFX.out).mono (by rw [if_pos HPB.out, if_pos HPB.out]; exact fun _ _ h => h)))))
          refine wpQuiet_nil ?_
          rintro _ ⟨y, rfl⟩
          have hb := y.2
          replace HW := Lib.hid (HW.out.trans (hb.mono HW.out.size))
          replace HB := Lib.hid (below_all HB.out hb)
          replace HH := Lib.hid (HH.out.past hb)
          clear hb
          have e5 := d5 y
          have f6 := fun u : Past y.1 => Past.cell (d6 y) u
          have fv := fun u : Past y.1 => Past.cell (dv y) u
          clear d5 d6 dv hQB hQP HLV
          by_cases hyd : x.year + 1 < durP b0 x.pol
          · skip
            have HE := Lib.hid (sum_snoc (leftL_yes HX.out HV.out hyd))
            have h1 := HS.out (a + 1)
            rw [HE.out] at h1
            obtain ⟨b1, b2⟩ := h1
            have hyb : decide (x.year + 1 < durP b0 x.pol) = true := by simpa using hyd
            go_wp2
            refine wp_region_past (by kernel_rfl) (by kernel_rfl) ?_
            repeat (go_big_quiet_step (fail))
            refine wpQuiet_nil ?_
            rintro _ ⟨u, rfl⟩
            have hb := u.2
            replace HW := Lib.hid (HW.out.trans (hb.mono HW.out.size))
            clear hb
            go_wp2
            go_roundw
            case rel => exact ⟨a + 1, by omega, by go_num, by rw [HE.out]; congr 1; omega, HW.out⟩
            case measure => simp [intOf]; omega
          · skip
            have HE := Lib.hid (sum_snoc (leftL_no HX.out HV.out hyd))
            have hyb : decide (x.year + 1 < durP b0 x.pol) = false := by simpa using hyd
            go_wp2
            go_roundw
            case rel => exact ⟨a + 1, by omega, by go_num, by rw [HE.out]; congr 1; omega, HW.out⟩
            case measure => simp [intOf]; omega
        · skip
          have hai : ¬ (a : Int) < (k0 : Int) := by omega
          have hka : a = k0 := by omega
          have hsum : ((leftL b0 xs0 ys0).take a).sum = (countL (ageP b0 xs0 ys0).1).sum := by rw [hka, take_all HLL.out]; exact HEN.out.symm
          rw [hsum]
          clear hsum hka ha hlt HW
          obtain ⟨T, hT⟩ : ∃ T, T = (countL (ageP b0 xs0 ys0).1).sum := ⟨_, rfl⟩
          rw [← hT]
          have HTT := Lib.hid hT; clear hT
          have h9 := HCS.out n1
          rw [take_all (by rw [countL, List.length_map]; exact hl1), ← HTT.out] at h9
          obtain ⟨t1, t2⟩ := h9
          go_wp2
          go_loopw [20, 24] (fun s i wr => ∃ a : Nat, a ≤ n1 ∧ i = .int .i64 a ∧ s = .int .i64 (T - ((countL (ageP b0 xs0 ys0).1).take a).sum) ∧ Below x2.heap.size x2 wr) (fun _ i _ => n1 - (intOf i).toNat)
          case atStart => exact ⟨0, by omega, rfl, by simp, Below.refl _ _⟩
          case round =>
            obtain ⟨j, hj, rfl, rfl, hb⟩ := hrel
            rename World => x3
            have HW := Lib.hid hb
            replace HB := Lib.hid (below_all HB.out hb)
            replace HH := Lib.hid (HH.out.past hb)
            clear hb
            by_cases hlt : j < n1
            · obtain ⟨z, hz⟩ := get_of_lt (xs := (ageP b0 xs0 ys0).1) (k := j) (by omega)
              obtain ⟨ad, had2, had, _, hc⟩ := ((HH.out.get 1 rfl)).at' (holdingRows_get hz)
              subst had2
              obtain ⟨_, _, _, _, _, _, c6⟩ := Holding.cells hc
              have HE := Lib.hid (sum_snoc (countL_get hz))
              have h1 := HCS.out (j + 1)
              rw [HE.out] at h1
              have h2 := HCS.out j
              obtain ⟨b1, b2⟩ := h1
              obtain ⟨b3, b4⟩ := h2
              have hzc := (hold_ok ((port_hold HG3.out).2 z (List.mem_of_getElem? hz))).1
              obtain ⟨z0, z1⟩ := hzc
              have hji : (j : Int) < (n1 : Int) := by omega
              have hjk : (j : Int) + 1 ≤ (n1 : Int) := by omega
              clear hc hz
              go_wp2
              go_roundw
              case rel => exact ⟨j + 1, by omega, by go_num, by rw [HE.out]; congr 1; omega, HW.out⟩
              case measure => simp [intOf]; omega
            · have hji : ¬ (j : Int) < (n1 : Int) := by omega
              have hjn : j = n1 := by omega
              have hsum : T - ((countL (ageP b0 xs0 ys0).1).take j).sum = 0 := by rw [hjn, take_all (by rw [countL, List.length_map]; exact hl1), ← HTT.out]; omega
              rw [hsum]
              clear hsum hjn hj hlt HW
              have z90 : x3.cell? ⟨g0_0, 0, none⟩ = some (.int .i64 b0.first) := Rd.bcell (HH.out.get 2 rfl) 0 rfl
              have z91 : x3.cell? ⟨g0_0, 1, none⟩ = some (.slice A0 n0 c0) := Rd.bcell (HH.out.get 2 rfl) 1 rfl
              have z92 : x3.cell? ⟨g0_0, 2, none⟩ = some (.int .i64 b0.rate) := Rd.bcell (HH.out.get 2 rfl) 2 rfl
              go_wp2_with fail
              refine (impl_IsPortfolio_any b0 A0 n0 c0 A1 n1 c1 (ageP b0 xs0 ys0).1 _ (HF0.out.bf.basT (HH.out.get 5 rfl)) hl1 (by omega) (HH.out.get 1 rfl) (port_fits HG3.out)).mono ?_
              rw [HG3.out]
              rintro e w' ⟨rfl, hb⟩
              replace HB := Lib.hid (below_all HB.out hb)
              go_wp2_with fail
              go_ret
              exact ⟨rfl, HB.out⟩
  · skip
    have hcd2 : ((incP b0 xs0).2.2 != 0) = false := by simpa [bne] using hcd
    obtain ⟨hp, e1, e2⟩ := inc_code (show (incP b0 xs0).2.2 = 0 by simpa using hcd)
    have HP := Lib.hid hp
    have HS := Lib.hid (offL_sums (port_hold hp).1 (port_hold hp).2)
    have HEQ := Lib.hid (show (offL b0 xs0).sum = (incP b0 xs0).1 + (incP b0 xs0).2.1 by rw [off_sum, e1, e2])
    clear hp e1 e2
    go_wp2_with fail
    go_loopw [16, 17] (fun s i wr => ∃ a : Nat, a ≤ k0 ∧ i = .int .i64 a ∧ s = .int .i64 ((offL b0 xs0).take a).sum ∧ Below w6.heap.size w6 wr) (fun _ i _ => k0 - (intOf i).toNat)
    case atStart => exact ⟨0, by omega, rfl, rfl, Below.refl _ _⟩
    case round =>
      obtain ⟨a, ha, rfl, rfl, hb⟩ := hrel
      rename World => x1
      have HW := Lib.hid hb
      replace HB := Lib.hid (below_all HB.out hb)
      replace HH := Lib.hid (HH.out.past hb)
      clear hb
      by_cases hlt : a < k0
      · skip
        obtain ⟨x, hx⟩ := get_of_lt (xs := xs0) (k := a) (by omega)
        obtain ⟨ad, had2, had, _, hc⟩ := ((HH.out.get 4 rfl)).at' (holdingRows_get hx)
        subst had2
        have HX := Lib.hid hx
        have Hx := Lib.hid ((port_hold HP.out).2 x (List.mem_of_getElem? hx))
        have HPB := Lib.hid (hold_pol Hx.out)
        have HFX := Lib.hid (Holding.fits_pol (HF0.out.fits x (List.mem_of_getElem? hx))).1
        have hQP := Lib.hid (Past.cells' (Holding.pol_cells hc))
        obtain ⟨_, _, _, _, _, c5, c6⟩ := Holding.cells hc
        have hai : (a : Int) < (k0 : Int) := by omega
        have hak : (a : Int) + 1 ≤ (k0 : Int) := by omega
        clear hc hx
        have HE := Lib.hid (sum_snoc (offL_get (b := b0) HX.out))
        have h1 := HS.out (a + 1)
        rw [HE.out] at h1
        have h2 := HS.out a
        obtain ⟨b1, b2⟩ := h1
        obtain ⟨b3, b4⟩ := h2
        obtain ⟨⟨o1, o2⟩, o3, o4⟩ := off_bound Hx.out
        have d6 := fun u : Past x1 => Past.cell c6 u
        clear c5 c6
        have hQB := Lib.hid (Past.cells' (Rd.box (HH.out.get 2 rfl)))
        have HLV := Lib.hid (HH.out.get 5 rfl)
        go_wp2
        refine wp_region_past (by kernel_rfl) (by kernel_rfl) ?_
        repeat (first | (go_big_quiet_want; (first | (first | (refine quiet_load_agg 28 _ rfl ⟨g0_0, 0, none⟩ rfl [.int .i64 b0.first, .slice A0 n0 c0, .int .i64 b0.rate] hQB.out _ Try.underlying28 rfl Bas.size ?_) | (refine quiet_load_agg 35 _ rfl (ad.add (a * 7)) rfl [.int .i64 x.kind, .int .i64 x.age, .int .i64 x.years, .int .i64 x.sum, .int .i64 x.load] hQP.out _ Try.underlying35 rfl Policy.size ?_))); go_simp; go_big_quiet_on) | go_big_quiet_step ((go_simp; go_at_call 47; exact past_call ((impl_OfficePremium_any b0 A0 n0 c0 x.pol _ (HF0.out.bf.basT (HLV.out.past (Subtype.property _))) HFX.out).mono (by rw [if_pos HPB.out, if_pos HPB.out]; exact fun _ _ h => h)))))
        refine wpQuiet_nil ?_
        rintro _ ⟨y, rfl⟩
        have hb := y.2
        replace HW := Lib.hid (HW.out.trans (hb.mono HW.out.size))
        replace HB := Lib.hid (below_all HB.out hb)
        replace HH := Lib.hid (HH.out.past hb)
        clear hb
        have e6 := d6 y
        clear d6 hQB hQP HLV
        go_wp2
        go_roundw
        case rel => exact ⟨a + 1, by omega, by go_num, by rw [HE.out], HW.out⟩
        case measure => simp [intOf]; omega
      · skip
        have hai : ¬ (a : Int) < (k0 : Int) := by omega
        have hka : a = k0 := by omega
        have hsum : ((offL b0 xs0).take a).sum = (incP b0 xs0).1 + (incP b0 xs0).2.1 := by rw [hka, take_all (by rw [offL, List.length_map]; exact hxl0)]; exact HEQ.out
        rw [hsum]
        have hka2 := Lib.hid hka
        have h1 := HS.out k0
        rw [take_all (by rw [offL, List.length_map]; exact hxl0), HEQ.out] at h1
        obtain ⟨b1, b2⟩ := h1
        clear hsum hka ha hlt HW
        cases hce : ((ageP b0 xs0 ys0).2 == 0)
        · skip
          have hce2 : ((ageP b0 xs0 ys0).2 != 0) = true := by simpa [bne] using hce
          go_wp2_with fail
          go_ret
          exact ⟨rfl, HB.out⟩
        · skip
          have hce2 : ((ageP b0 xs0 ys0).2 != 0) = false := by simpa [bne] using hce
          obtain ⟨hp, g1, g2, g3, g4⟩ := age_good (show (ageP b0 xs0 ys0).2 = 0 by simpa using hce)
          have HP := Lib.hid hp
          have hmk : m0 = k0 := by rw [← hyl0, ← hxl0]; exact g1
          have HMK := Lib.hid hmk
          have HG3 := Lib.hid g3
          have HEN := Lib.hid g4
          have HS := Lib.hid (leftL_sums hp g2)
          have HDD := Lib.hid g2
          have HCS := Lib.hid (countL_sums g3)
          have HLL := Lib.hid (show (leftL b0 xs0 ys0).length = k0 by simp [leftL]; omega)
          clear hp g1 g2 g3 g4 hmk
          go_wp2_with fail
          go_loopw [20, 21] (fun s i wr => ∃ a : Nat, a ≤ k0 ∧ i = .int .i64 a ∧ s = .int .i64 ((leftL b0 xs0 ys0).take a).sum ∧ Below x1.heap.size x1 wr) (fun _ i _ => k0 - (intOf i).toNat)
          case atStart => exact ⟨0, by omega, rfl, rfl, Below.refl _ _⟩
          case round =>
            obtain ⟨a, ha, rfl, rfl, hb⟩ := hrel
            rename World => x2
            have HW := Lib.hid hb
            replace HB := Lib.hid (below_all HB.out hb)
            replace HH := Lib.hid (HH.out.past hb)
            clear hb
            by_cases hlt : a < k0
            · skip
              obtain ⟨x, hx⟩ := get_of_lt (xs := xs0) (k := a) (by omega)
              obtain ⟨ad, had2, had, _, hc⟩ := ((HH.out.get 4 rfl)).at' (holdingRows_get hx)
              subst had2
              have HX := Lib.hid hx
              have Hx := Lib.hid ((port_hold HP.out).2 x (List.mem_of_getElem? hx))
              have HPB := Lib.hid (hold_pol Hx.out)
              have HFX := Lib.hid (Holding.fits_pol (HF0.out.fits x (List.mem_of_getElem? hx))).1
              have hQP := Lib.hid (Past.cells' (Holding.pol_cells hc))
              obtain ⟨_, _, _, _, _, c5, c6⟩ := Holding.cells hc
              have hai : (a : Int) < (k0 : Int) := by omega
              have hak : (a : Int) + 1 ≤ (k0 : Int) := by omega
              clear hc hx
              obtain ⟨v, hv⟩ := get_of_lt (xs := ys0) (k := a) (by have := HMK.out; omega)
              obtain ⟨av, hav2, hav, hcv⟩ := ((HH.out.get 3 rfl)).int_at hv
              subst hav2
              have HV := Lib.hid hv
              obtain ⟨v0', v1'⟩ := dead_get HDD.out HX.out hv
              obtain ⟨⟨q0, q1⟩, HYO⟩ := hold_ok Hx.out
              have k0' : 0 ≤ x.year := HYO.k0
              have k1' : x.year ≤ durP b0 x.pol - 1 := HYO.k1
              have hdb := dur_bound HYO.toPolOk
              have ham : (a : Int) < (m0 : Int) := by have := HMK.out; omega
              have d5 := fun u : Past x2 => Past.cell c5 u
              have d6 := fun u : Past x2 => Past.cell c6 u
              have dv := fun u : Past x2 => Past.cell hcv u
              have h2 := HS.out a
              obtain ⟨b3, b4⟩ := h2
              clear c5 c6 hcv hv HYO
              have hQB := Lib.hid (Past.cells' (Rd.box (HH.out.get 2 rfl)))
              have HLV := Lib.hid (HH.out.get 5 rfl)
              go_wp2
              refine wp_region_past (by kernel_rfl) (by kernel_rfl) ?_
              repeat (first | (go_big_quiet_want; (first | (first | (refine quiet_load_agg 28 _ rfl ⟨g0_0, 0, none⟩ rfl [.int .i64 b0.first, .slice A0 n0 c0, .int .i64 b0.rate] hQB.out _ Try.underlying28 rfl Bas.size ?_) | (refine quiet_load_agg 35 _ rfl (ad.add (a * 7)) rfl [.int .i64 x.kind, .int .i64 x.age, .int .i64 x.years, .int .i64 x.sum, .int .i64 x.load] hQP.out _ Try.underlying35 rfl Policy.size ?_))); go_simp; go_big_quiet_on) | go_big_quiet_step ((go_simp; go_at_call 53; exact past_call ((impl_DurationOf_any b0 A0 n0 c0 x.pol _ (HF0.out.bf.basT (HLV.out.past (Subtype.property _))) HFX.out).mono (by rw [if_pos HPB.out, if_pos HPB.out]; exact fun _ _ h => h)))))
              refine wpQuiet_nil ?_
              rintro _ ⟨y, rfl⟩
              have hb := y.2
              replace HW := Lib.hid (HW.out.trans (hb.mono HW.out.size))
              replace HB := Lib.hid (below_all HB.out hb)
              replace HH := Lib.hid (HH.out.past hb)
              clear hb
              have e5 := d5 y
              have f6 := fun u : Past y.1 => Past.cell (d6 y) u
              have fv := fun u : Past y.1 => Past.cell (dv y) u
              clear d5 d6 dv hQB hQP HLV
              by_cases hyd : x.year + 1 < durP b0 x.pol
              · skip
                have HE := Lib.hid (sum_snoc (leftL_yes HX.out HV.out hyd))
                have h1 := HS.out (a + 1)
                rw [HE.out] at h1
                obtain ⟨b1, b2⟩ := h1
                have hyb : decide (x.year + 1 < durP b0 x.pol) = true := by simpa using hyd
                go_wp2
                refine wp_region_past (by kernel_rfl) (by kernel_rfl) ?_
                repeat (go_big_quiet_step (fail))
                refine wpQuiet_nil ?_
                rintro _ ⟨u, rfl⟩
                have hb := u.2
                replace HW := Lib.hid (HW.out.trans (hb.mono HW.out.size))
                clear hb
                go_wp2
                go_roundw
                case rel => exact ⟨a + 1, by omega, by go_num, by rw [HE.out]; congr 1; omega, HW.out⟩
                case measure => simp [intOf]; omega
              · skip
                have HE := Lib.hid (sum_snoc (leftL_no HX.out HV.out hyd))
                have hyb : decide (x.year + 1 < durP b0 x.pol) = false := by simpa using hyd
                go_wp2
                go_roundw
                case rel => exact ⟨a + 1, by omega, by go_num, by rw [HE.out]; congr 1; omega, HW.out⟩
                case measure => simp [intOf]; omega
            · skip
              have hai : ¬ (a : Int) < (k0 : Int) := by omega
              have hka : a = k0 := by omega
              have hsum : ((leftL b0 xs0 ys0).take a).sum = (countL (ageP b0 xs0 ys0).1).sum := by rw [hka, take_all HLL.out]; exact HEN.out.symm
              rw [hsum]
              clear hsum hka ha hlt HW
              obtain ⟨T, hT⟩ : ∃ T, T = (countL (ageP b0 xs0 ys0).1).sum := ⟨_, rfl⟩
              rw [← hT]
              have HTT := Lib.hid hT; clear hT
              have h9 := HCS.out n1
              rw [take_all (by rw [countL, List.length_map]; exact hl1), ← HTT.out] at h9
              obtain ⟨t1, t2⟩ := h9
              go_wp2
              go_loopw [20, 24] (fun s i wr => ∃ a : Nat, a ≤ n1 ∧ i = .int .i64 a ∧ s = .int .i64 (T - ((countL (ageP b0 xs0 ys0).1).take a).sum) ∧ Below x2.heap.size x2 wr) (fun _ i _ => n1 - (intOf i).toNat)
              case atStart => exact ⟨0, by omega, rfl, by simp, Below.refl _ _⟩
              case round =>
                obtain ⟨j, hj, rfl, rfl, hb⟩ := hrel
                rename World => x3
                have HW := Lib.hid hb
                replace HB := Lib.hid (below_all HB.out hb)
                replace HH := Lib.hid (HH.out.past hb)
                clear hb
                by_cases hlt : j < n1
                · obtain ⟨z, hz⟩ := get_of_lt (xs := (ageP b0 xs0 ys0).1) (k := j) (by omega)
                  obtain ⟨ad, had2, had, _, hc⟩ := ((HH.out.get 1 rfl)).at' (holdingRows_get hz)
                  subst had2
                  obtain ⟨_, _, _, _, _, _, c6⟩ := Holding.cells hc
                  have HE := Lib.hid (sum_snoc (countL_get hz))
                  have h1 := HCS.out (j + 1)
                  rw [HE.out] at h1
                  have h2 := HCS.out j
                  obtain ⟨b1, b2⟩ := h1
                  obtain ⟨b3, b4⟩ := h2
                  have hzc := (hold_ok ((port_hold HG3.out).2 z (List.mem_of_getElem? hz))).1
                  obtain ⟨z0, z1⟩ := hzc
                  have hji : (j : Int) < (n1 : Int) := by omega
                  have hjk : (j : Int) + 1 ≤ (n1 : Int) := by omega
                  clear hc hz
                  go_wp2
                  go_roundw
                  case rel => exact ⟨j + 1, by omega, by go_num, by rw [HE.out]; congr 1; omega, HW.out⟩
                  case measure => simp [intOf]; omega
                · have hji : ¬ (j : Int) < (n1 : Int) := by omega
                  have hjn : j = n1 := by omega
                  have hsum : T - ((countL (ageP b0 xs0 ys0).1).take j).sum = 0 := by rw [hjn, take_all (by rw [countL, List.length_map]; exact hl1), ← HTT.out]; omega
                  rw [hsum]
                  clear hsum hjn hj hlt HW
                  have z90 : x3.cell? ⟨g0_0, 0, none⟩ = some (.int .i64 b0.first) := Rd.bcell (HH.out.get 2 rfl) 0 rfl
                  have z91 : x3.cell? ⟨g0_0, 1, none⟩ = some (.slice A0 n0 c0) := Rd.bcell (HH.out.get 2 rfl) 1 rfl
                  have z92 : x3.cell? ⟨g0_0, 2, none⟩ = some (.int .i64 b0.rate) := Rd.bcell (HH.out.get 2 rfl) 2 rfl
                  go_wp2_with fail
                  refine (impl_IsPortfolio_any b0 A0 n0 c0 A1 n1 c1 (ageP b0 xs0 ys0).1 _ (HF0.out.bf.basT (HH.out.get 5 rfl)) hl1 (by omega) (HH.out.get 1 rfl) (port_fits HG3.out)).mono ?_
                  rw [HG3.out]
                  rintro e w' ⟨rfl, hb⟩
                  replace HB := Lib.hid (below_all HB.out hb)
                  go_wp2_with fail
                  go_ret
                  exact ⟨rfl, HB.out⟩
set_option maxRecDepth 100000 in
theorem lifted (os : Os) (started : os.Started) (H : Type) (enc : TypeId × Value → H) :
    ReturnsInHanded {} Try.checked os 7 .any (Rows.fnAgeingSpec.pre6 enc Try.prog Try.f7 Rows.fnAgeingRow.domain false) (Rows.fnAgeingSpec.post enc Try.prog Try.f7 false true false false) := by
  refine law_lifted os started H enc 4 (by kernel_rfl) Try.func7
    (ChangeSpec.witness6 (enc := enc) (C := Try.checked) false ⟨#[], #[.slice none 0 0], []⟩ 8 (by kernel_rfl) (by kernel_rfl) (by kernel_rfl) (by kernel_rfl)) rfl rfl Try.underlying4
    (by rw [Try.params7]; simp only [List.forall_mem_cons]; exact ⟨⟨by kernel_rfl, of_decide_eq_true (by kernel_rfl)⟩, by simp⟩) (fun ds hl => by
      match ds, hl with
      | [d0], _ => rfl) ?_
  intro W base args ds p hval hA
  rw [Try.params7] at hA hval
  obtain ⟨v0, vs0, d0, ds0, p0, q0, hargs, rfl, rfl, h0, rr0⟩ := trodAll_cons hA
  obtain ⟨rfl, rfl, rfl⟩ := trodAll_nil rr0
  obtain rfl : args = #[v0] := by cases args; simp_all
  obtain ⟨A0, n0, c0, rfl⟩ := okWide_slice Try.underlying22 (hval 0 22 v0 rfl rfl)
  obtain ⟨fu0, ho0⟩ := h0
  obtain ⟨bs, hbl, hby, hRd, hnm⟩ := open_code Try.underlying22 Try.underlying5 (by kernel_rfl) ho0
  exact walk ⟨A0, n0, c0, bs⟩ hbl hby hnm W hRd
theorem proved : Rows.FnAgeingSaid :=
  OpenClaim.holds_of_wide 7 Try.f7 rfl rfl rfl rfl rfl rfl rfl ⟨rfl, rfl, rfl, rfl, rfl⟩ rfl rfl rfl rfl rfl (by kernel_rfl) Try.func7 (by kernel_rfl)
    (of_decide_eq_true (by kernel_rfl)) (by unfold Func.isWrapper; first | (rw [if_pos (by decide +kernel)]; kernel_rfl) | (rw [if_neg (by decide +kernel)]; exact ⟨rfl, rfl⟩))
    (fun os started H enc _ => lifted os started H enc)
end fnAgeing
end Go.Proofs.Ytbjdbpdgacfcpaa
