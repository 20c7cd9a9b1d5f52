/- The law on the valuation of a portfolio: the parts of a reserve add up to it, and the largest holding has the greatest one. No condition. -/
import Derived.Test.YtbjdbpdgacfcpaaGreatK0
import Derived.Test.YtbjdbpdgacfcpaaGreatK1
import Derived.Test.YtbjdbpdgacfcpaaGreatK17
import Derived.Test.YtbjdbpdgacfcpaaGreatK18
import Derived.Test.YtbjdbpdgacfcpaaGreatK19
namespace Go.Proofs.YtbjdbpdgacfcpaaGreat
open Go.ChangeShapes Go.WideShapes Go.ChangeAt Go.RowKit Go.Deep
namespace fnValuation
set_option maxRecDepth 100000 in
set_option maxHeartbeats 8000000 in
theorem walk (K : Code) (hlen : K.bs.length = K.n) (hbyte : ∀ x ∈ K.bs, 0 ≤ x ∧ x ≤ 255) (hmax : K.n ≤ 9223372036854775807) (w : World) (hX : Rd w w.heap.size K.A 1 (byteRows K.bs)) :
    Calls Tryz.prog 5 #[.slice K.A K.n K.c] w fun e w' => e = .returned (.bool true) ∧ Below w.heap.size w w' := by
  by_cases hbig : 4096 < K.n
  · have hd : decide (4096 < K.n) = true := by simpa using hbig
    clear hX hbyte hlen
    go_enter Tryz.func5, Tryz.ntmps5
    go_wp2_with (go_at_call 8; refine (laws_big_any K.A K.n K.c _ (by omega)).mono ?_; rw [hd]; rintro e w' ⟨rfl, rfl⟩)
    go_ret
    exact ⟨rfl, Below.refl _ _⟩
  have hd : decide (4096 < K.n) = false := by simpa using hbig
  have hK : K.Ok := ⟨hlen, by omega, hbyte⟩
  have HH := Lib.hid ((Held.nil w).snoc hX)
  have HB := Lib.hid (Below.refl w.heap.size w)
  clear hX hbyte hlen hbig
  go_enter Tryz.func5, Tryz.ntmps5
  go_wp2_with (go_at_call 8; refine (laws_big_any K.A K.n K.c _ (by omega)).mono ?_; rw [hd]; rintro e w' ⟨rfl, rfl⟩)
  refine (spec_DrawTotalReserve_any K hK _ (HH.out.get 0 rfl)).mono ?_
  rintro e w1 ⟨b0, A0, n0, c0, H0, k0, e0, xs0, rfl, hP, hb⟩
  have HF0 := Lib.hid hP.pf
  have hxl0 := HF0.out.xlen
  have hkl0 := HF0.out.len
  have hke0 : k0 ≤ e0 := res_cap hP.res
  replace HB := Lib.hid (below_all HB.out hb)
  replace HH := Lib.hid (((HH.out.past hb).cons hP.liv.rd).cons hP.res.rd)
  clear hb
  clear hP
  obtain ⟨hb, hr0⟩ := box1 (w := w1) (tx := 28) (X := [.int .i64 b0.first, .slice A0 n0 c0, .int .i64 b0.rate])
  replace HB := Lib.hid (below_all HB.out hb)
  replace HH := Lib.hid ((HH.out.past hb).cons hr0)
  clear hb hr0
  have HL_bx0 := Lib.hid (Rd.box (HH.out.get 0 rfl))
  go_wp2_with (refine wpList_load_agg rfl 28 _ rfl ⟨w1.heap.size, 0, none⟩ rfl [.int .i64 b0.first, .slice A0 n0 c0, .int .i64 b0.rate] HL_bx0.out _ Tryz.underlying28 rfl Bas.size ?_)
  clear HL_bx0
  generalize (w1.alloc (.cells #[.int .i64 b0.first, .slice A0 n0 c0, .int .i64 b0.rate] 28)) = v0 at HB HH ⊢
  generalize w1.heap.size = g0_0 at HH ⊢
  refine (impl_TotalReserve_any b0 A0 n0 c0 H0 k0 e0 xs0 _ (HF0.out.bf.basT (HH.out.get 2 rfl)) hxl0 (by omega) (HH.out.get 1 rfl) HF0.out.fits).mono ?_
  rintro e w2 ⟨rfl, hb⟩
  replace HB := Lib.hid (below_all HB.out hb)
  replace HH := Lib.hid (HH.out.past hb)
  clear hb
  have HL_bx0 := Lib.hid (Rd.box (HH.out.get 0 rfl))
  go_wp2_with (refine wpList_load_agg rfl 28 _ rfl ⟨g0_0, 0, none⟩ rfl [.int .i64 b0.first, .slice A0 n0 c0, .int .i64 b0.rate] HL_bx0.out _ Tryz.underlying28 rfl Bas.size ?_)
  clear HL_bx0
  refine (spec_TotalReserve_any b0 A0 n0 c0 H0 k0 e0 xs0 _ (HF0.out.bf.basT (HH.out.get 2 rfl)) hxl0 (by omega) (HH.out.get 1 rfl) HF0.out.fits).mono ?_
  rintro e w3 ⟨rfl, hb⟩
  replace HB := Lib.hid (below_all HB.out hb)
  replace HH := Lib.hid (HH.out.past hb)
  clear hb
  have HL_bx0 := Lib.hid (Rd.box (HH.out.get 0 rfl))
  go_wp2_with (refine wpList_load_agg rfl 28 _ rfl ⟨g0_0, 0, none⟩ rfl [.int .i64 b0.first, .slice A0 n0 c0, .int .i64 b0.rate] HL_bx0.out _ Tryz.underlying28 rfl Bas.size ?_)
  clear HL_bx0
  refine (impl_ReserveByKind_any b0 A0 n0 c0 H0 k0 e0 xs0 _ (HF0.out.bf.basT (HH.out.get 2 rfl)) hxl0 (by omega) (HH.out.get 1 rfl) HF0.out.fits).mono ?_
  rintro e w4 ⟨A1, n1, c1, rfl, hR, hb⟩
  have hl1 : (kindsP b0 xs0).1.length = n1 := by have := hR.len; rwa [intRows_length] at this
  replace HB := Lib.hid (below_all HB.out hb)
  replace HH := Lib.hid ((HH.out.past hb).cons hR.rd)
  clear hb
  clear hR
  have HL_bx0 := Lib.hid (Rd.box (HH.out.get 1 rfl))
  go_wp2_with (refine wpList_load_agg rfl 28 _ rfl ⟨g0_0, 0, none⟩ rfl [.int .i64 b0.first, .slice A0 n0 c0, .int .i64 b0.rate] HL_bx0.out _ Tryz.underlying28 rfl Bas.size ?_)
  clear HL_bx0
  refine (spec_ReserveByKind_any b0 A0 n0 c0 H0 k0 e0 xs0 _ (HF0.out.bf.basT (HH.out.get 3 rfl)) hxl0 (by omega) (HH.out.get 2 rfl) HF0.out.fits).mono ?_
  rintro e w5 ⟨A2, n2, c2, rfl, hR, hb⟩
  have hl2 : (kindsP b0 xs0).1.length = n2 := by have := hR.len; rwa [intRows_length] at this
  obtain rfl : n1 = n2 := by rw [← hl1, ← hl2]
  replace HB := Lib.hid (below_all HB.out hb)
  replace HH := Lib.hid ((HH.out.past hb).cons hR.rd)
  clear hb
  clear hR
  have HL_bx0 := Lib.hid (Rd.box (HH.out.get 2 rfl))
  go_wp2_with (refine wpList_load_agg rfl 28 _ rfl ⟨g0_0, 0, none⟩ rfl [.int .i64 b0.first, .slice A0 n0 c0, .int .i64 b0.rate] HL_bx0.out _ Tryz.underlying28 rfl Bas.size ?_)
  clear HL_bx0
  refine (impl_LargestHolding_any b0 A0 n0 c0 H0 k0 e0 xs0 _ (HF0.out.bf.basT (HH.out.get 4 rfl)) hxl0 (by omega) (HH.out.get 3 rfl) HF0.out.fits).mono ?_
  rintro e w6 ⟨rfl, hb⟩
  replace HB := Lib.hid (below_all HB.out hb)
  replace HH := Lib.hid (HH.out.past hb)
  clear hb
  have HL_bx0 := Lib.hid (Rd.box (HH.out.get 2 rfl))
  go_wp2_with (refine wpList_load_agg rfl 28 _ rfl ⟨g0_0, 0, none⟩ rfl [.int .i64 b0.first, .slice A0 n0 c0, .int .i64 b0.rate] HL_bx0.out _ Tryz.underlying28 rfl Bas.size ?_)
  clear HL_bx0
  refine (spec_LargestHolding_any b0 A0 n0 c0 H0 k0 e0 xs0 _ (HF0.out.bf.basT (HH.out.get 4 rfl)) hxl0 (by omega) (HH.out.get 3 rfl) HF0.out.fits).mono ?_
  rintro e w7 ⟨rfl, hb⟩
  replace HB := Lib.hid (below_all HB.out hb)
  replace HH := Lib.hid (HH.out.past hb)
  clear hb
  have HL_bx0 := Lib.hid (Rd.box (HH.out.get 2 rfl))
  go_wp2_with (refine wpList_load_agg rfl 28 _ rfl ⟨g0_0, 0, none⟩ rfl [.int .i64 b0.first, .slice A0 n0 c0, .int .i64 b0.rate] HL_bx0.out _ Tryz.underlying28 rfl Bas.size ?_)
  clear HL_bx0
  refine (impl_ExpectedClaims_any b0 A0 n0 c0 H0 k0 e0 xs0 _ (HF0.out.bf.basT (HH.out.get 4 rfl)) hxl0 (by omega) (HH.out.get 3 rfl) HF0.out.fits).mono ?_
  rintro e w8 ⟨rfl, hb⟩
  replace HB := Lib.hid (below_all HB.out hb)
  replace HH := Lib.hid (HH.out.past hb)
  clear hb
  have HL_bx0 := Lib.hid (Rd.box (HH.out.get 2 rfl))
  go_wp2_with (refine wpList_load_agg rfl 28 _ rfl ⟨g0_0, 0, none⟩ rfl [.int .i64 b0.first, .slice A0 n0 c0, .int .i64 b0.rate] HL_bx0.out _ Tryz.underlying28 rfl Bas.size ?_)
  clear HL_bx0
  refine (spec_ExpectedClaims_any b0 A0 n0 c0 H0 k0 e0 xs0 _ (HF0.out.bf.basT (HH.out.get 4 rfl)) hxl0 (by omega) (HH.out.get 3 rfl) HF0.out.fits).mono ?_
  rintro e w9 ⟨rfl, hb⟩
  replace HB := Lib.hid (below_all HB.out hb)
  replace HH := Lib.hid (HH.out.past hb)
  clear hb
  have HL_bx0 := Lib.hid (Rd.box (HH.out.get 2 rfl))
  go_wp2_with (refine wpList_load_agg rfl 28 _ rfl ⟨g0_0, 0, none⟩ rfl [.int .i64 b0.first, .slice A0 n0 c0, .int .i64 b0.rate] HL_bx0.out _ Tryz.underlying28 rfl Bas.size ?_)
  clear HL_bx0
  refine (impl_MaturingSums_any b0 A0 n0 c0 H0 k0 e0 xs0 _ (HF0.out.bf.basT (HH.out.get 4 rfl)) hxl0 (by omega) (HH.out.get 3 rfl) HF0.out.fits).mono ?_
  rintro e w10 ⟨rfl, hb⟩
  replace HB := Lib.hid (below_all HB.out hb)
  replace HH := Lib.hid (HH.out.past hb)
  clear hb
  have HL_bx0 := Lib.hid (Rd.box (HH.out.get 2 rfl))
  go_wp2_with (refine wpList_load_agg rfl 28 _ rfl ⟨g0_0, 0, none⟩ rfl [.int .i64 b0.first, .slice A0 n0 c0, .int .i64 b0.rate] HL_bx0.out _ Tryz.underlying28 rfl Bas.size ?_)
  clear HL_bx0
  refine (spec_MaturingSums_any b0 A0 n0 c0 H0 k0 e0 xs0 _ (HF0.out.bf.basT (HH.out.get 4 rfl)) hxl0 (by omega) (HH.out.get 3 rfl) HF0.out.fits).mono ?_
  rintro e w11 ⟨rfl, hb⟩
  replace HB := Lib.hid (below_all HB.out hb)
  replace HH := Lib.hid (HH.out.past hb)
  clear hb
  have hs1 : n1 ≤ 1048576 := by rw [← hl1]; exact kinds_small b0 xs0
  obtain ⟨v1, v2, v3, v4⟩ := val_codes b0 xs0
  have v5 := large_code b0 xs0
  clear hd hmax hK hl2
  go_wp2_with fail
  refine (likeInts_any A1 n1 c1 A2 c2 (kindsP b0 xs0).1 _ hl1 hs1 (HH.out.get 1 rfl) (HH.out.get 0 rfl)).mono ?_
  rintro e w12 ⟨rfl, hb⟩
  replace HB := Lib.hid (below_all HB.out hb)
  replace HH := Lib.hid (HH.out.past hb)
  clear hb
  have p0 : w12.cell? ⟨g0_0, 0, none⟩ = some (.int .i64 b0.first) := Rd.bcell (HH.out.get 2 rfl) 0 rfl
  have p1 : w12.cell? ⟨g0_0, 1, none⟩ = some (.slice A0 n0 c0) := Rd.bcell (HH.out.get 2 rfl) 1 rfl
  have p2 : w12.cell? ⟨g0_0, 2, none⟩ = some (.int .i64 b0.rate) := Rd.bcell (HH.out.get 2 rfl) 2 rfl
  go_wp2_with fail
  refine (impl_IsPortfolio_any b0 A0 n0 c0 H0 k0 e0 xs0 _ (HF0.out.bf.basT (HH.out.get 4 rfl)) hxl0 (by omega) (HH.out.get 3 rfl) HF0.out.fits).mono ?_
  rw [← v4]
  rintro e w13 ⟨rfl, hb⟩
  replace HB := Lib.hid (below_all HB.out hb)
  replace HH := Lib.hid (HH.out.past hb)
  clear hb
  clear p0 p1 p2
  cases hp : portB b0 xs0
  · skip
    rw [hp] at v4
    have hz : ((totP b0 xs0).2 != 0) = true := by simp only [bne, v4, Bool.not_false]
    have y1 : ((kindsP b0 xs0).2 == (totP b0 xs0).2) = true := by rw [v1]; simp
    have y2 : ((claimsP b0 xs0).2 == (totP b0 xs0).2) = true := by rw [v2]; simp
    have y3 : ((matsP b0 xs0).2 == (totP b0 xs0).2) = true := by rw [v3]; simp
    have y5 : ((largeP b0 xs0).2 == (totP b0 xs0).2) = true := by rw [v5 hp]; simp
    clear v1 v2 v3 v5
    go_wp2_with fail
    go_ret
    exact ⟨rfl, HB.out⟩
  · skip
    rw [hp] at v4
    have hz : ((totP b0 xs0).2 != 0) = false := by simp only [bne, v4, Bool.not_true]
    have HP := Lib.hid hp
    have h30 := (port_hold hp).1
    have HS := Lib.hid (resL_sums (port_hold hp).1 (port_hold hp).2)
    have HTS := Lib.hid (show (totP b0 xs0).1 = (resL b0 xs0).sum by unfold totP; rw [if_pos hp])
    have HKS := Lib.hid (show (kindsP b0 xs0).1.sum = (resL b0 xs0).sum by rw [kinds_total hp]; exact HTS.out)
    have HSK := Lib.hid (kinds_sums hp)
    clear v1 v2 v3 v4 v5 hp
    generalize hL : (largeP b0 xs0).1 = L
    have HLG := Lib.hid hL; clear hL
    go_wp2_with fail
    go_loopw [25, 26] (fun s i wr => ∃ a : Nat, a ≤ k0 ∧ i = .int .i64 a ∧ s = .int .i64 ((resL b0 xs0).take a).sum ∧ Below w13.heap.size w13 wr) (fun _ i _ => k0 - (intOf i).toNat)
    case atStart => exact ⟨0, by omega, rfl, rfl, Below.refl _ _⟩
    case round =>
      obtain ⟨a, ha, rfl, rfl, hb⟩ := hrel
      have HW := Lib.hid hb
      replace HB := Lib.hid (below_all HB.out hb)
      replace HH := Lib.hid (HH.out.past hb)
      clear hb
      by_cases hlt : a < k0
      · obtain ⟨x, hx⟩ := get_of_lt (xs := xs0) (k := a) (by omega)
        obtain ⟨j, y, hj, hjl, hy, hle⟩ := large_most HP.out hx
        have HE := Lib.hid (sum_snoc (resL_get (b := b0) hx))
        have h1 := HS.out (a + 1)
        rw [HE.out] at h1
        have h2 := HS.out a
        obtain ⟨b1, b2⟩ := h1
        obtain ⟨b3, b4⟩ := h2
        have HO1 := Lib.hid (one_port HP.out (List.mem_of_getElem? hx))
        have HO2 := Lib.hid (one_port HP.out (List.mem_of_getElem? hy))
        have HF1 := Lib.hid (HF0.out.fits x (List.mem_of_getElem? hx))
        have HF2 := Lib.hid (HF0.out.fits y (List.mem_of_getElem? hy))
        have hLj : L = (j : Int) := by rw [← HLG.out, hj]
        have hyL : xs0[L.toNat]? = some y := by rw [hLj]; simpa using hy
        have hL0 : 0 ≤ L := by omega
        have hL1 : L + 1 ≤ (k0 : Int) := by omega
        have hL2 : L + 1 ≤ (e0 : Int) := by omega
        clear hLj
        obtain ⟨ad4, rfl, had4, _, hc4⟩ := (HH.out.get 3 rfl).at' (holdingRows_get hx)
        have hae : (a : Int) + 1 ≤ (e0 : Int) := by omega
        have hak : (a : Int) + 1 ≤ (k0 : Int) := by omega
        clear hc4
        have HR1 := Lib.hid (fun W' (h : Rd W' W'.heap.size (some ad4) 7 (holdingRows xs0)) => holding_one h hx)
        have HR2 := Lib.hid (fun W' (h : Rd W' W'.heap.size (some ad4) 7 (holdingRows xs0)) => holding_one h hyL)
        have hrv : decide (resV b0 y < resV b0 x) = false := by simp; omega
        have hai : (a : Int) < (k0 : Int) := by omega
        clear hx hy hj hle hyL hjl
        have hQ := Lib.hid (Past.cells' (Rd.box (HH.out.get 2 rfl)))
        have HLV := Lib.hid (HH.out.get 4 rfl)
        have HHO := Lib.hid (HH.out.get 3 rfl)
        go_wp2
        refine wp_region_past (by kernel_rfl) (by kernel_rfl) ?_
        repeat (first | (go_big_quiet_want; (first | (refine quiet_load_agg 28 _ rfl ⟨g0_0, 0, none⟩ rfl [.int .i64 b0.first, .slice A0 n0 c0, .int .i64 b0.rate] hQ.out _ Tryz.underlying28 rfl Bas.size ?_)); go_simp; go_big_quiet_on) | go_big_quiet_step ((go_simp; go_at_call 22; exact past_call (impl_TotalReserve_one b0 A0 n0 c0 _ _ _ x _ (HF0.out.bf.basT (HLV.out.past (Subtype.property _))) (by omega) (HR1.out _ (HHO.out.past (Subtype.property _))) HF1.out HO1.out))))
        refine wpQuiet_nil ?_
        rintro _ ⟨u, rfl⟩
        have hb := u.2
        have HW := Lib.hid (HW.out.trans (hb.mono HW.out.size))
        replace HB := Lib.hid (below_all HB.out hb)
        replace HH := Lib.hid (HH.out.past hb)
        clear hb hQ HLV HHO
        obtain ⟨Wu, hWu⟩ : ∃ Wu, Wu = u.1 := ⟨_, rfl⟩
        rw [← hWu] at HW HB HH ⊢
        clear hWu u
        have hQ := Lib.hid (Past.cells' (Rd.box (HH.out.get 2 rfl)))
        have HLV := Lib.hid (HH.out.get 4 rfl)
        have HHO := Lib.hid (HH.out.get 3 rfl)
        go_wp2
        refine wp_region_past (by kernel_rfl) (by kernel_rfl) ?_
        repeat (first | (go_big_quiet_want; (first | (refine quiet_load_agg 28 _ rfl ⟨g0_0, 0, none⟩ rfl [.int .i64 b0.first, .slice A0 n0 c0, .int .i64 b0.rate] hQ.out _ Tryz.underlying28 rfl Bas.size ?_)); go_simp; go_big_quiet_on) | go_big_quiet_step ((go_simp; go_at_call 22; exact past_call (impl_TotalReserve_one b0 A0 n0 c0 _ _ _ y _ (HF0.out.bf.basT (HLV.out.past (Subtype.property _))) (by omega) (HR2.out _ (HHO.out.past (Subtype.property _))) HF2.out HO2.out))))
        refine wpQuiet_nil ?_
        rintro _ ⟨z, rfl⟩
        have hb := z.2
        have HW := Lib.hid (HW.out.trans (hb.mono HW.out.size))
        replace HB := Lib.hid (below_all HB.out hb)
        replace HH := Lib.hid (HH.out.past hb)
        clear hb hQ HLV HHO
        go_wp2
        go_roundw
        case rel => exact ⟨a + 1, by omega, by go_num, by rw [HE.out], HW.out⟩
        case measure => simp [intOf]; omega
      · have hka : a = k0 := by omega
        subst hka
        have htk := take_all (xs := resL b0 xs0) (n := a) (by rw [resL, List.length_map]; exact hxl0)
        rw [htk, HTS.out] at *
        clear htk
        rw [← HTS.out]
        go_wp2_with (go_at_call 47; refine (laws_sum_any A1 n1 c1 (kindsP b0 xs0).1 _ hl1 hs1 (HH.out.get 1 rfl) HSK.out).mono ?_; rw [HKS.out, ← HTS.out]; rintro e w' ⟨rfl, rfl⟩)
        go_ret
        exact ⟨rfl, HB.out⟩
set_option maxRecDepth 100000 in
theorem lifted (os : Os) (started : os.Started) (H : Type) (enc : TypeId × Value → H) :
    ReturnsInHanded {} Tryz.checked os 5 .any (Rows.fnValuationSpec.pre6 enc Tryz.prog Tryz.f5 Rows.fnValuationRow.domain false) (Rows.fnValuationSpec.post enc Tryz.prog Tryz.f5 false true false false) := by
  refine law_lifted os started H enc 4 (by kernel_rfl) Tryz.func5
    (ChangeSpec.witness6 (enc := enc) (C := Tryz.checked) false ⟨#[], #[.slice none 0 0], []⟩ 8 (by kernel_rfl) (by kernel_rfl) (by kernel_rfl) (by kernel_rfl)) rfl rfl Tryz.underlying4
    (by rw [Tryz.params5]; simp only [List.forall_mem_cons]; exact ⟨⟨by kernel_rfl, of_decide_eq_true (by kernel_rfl)⟩, by simp⟩) (fun ds hl => by
      match ds, hl with
      | [d0], _ => rfl) ?_
  intro W base args ds p hval hA
  rw [Tryz.params5] at hA hval
  obtain ⟨v0, vs0, d0, ds0, p0, q0, hargs, rfl, rfl, h0, rr0⟩ := trodAll_cons hA
  obtain ⟨rfl, rfl, rfl⟩ := trodAll_nil rr0
  obtain rfl : args = #[v0] := by cases args; simp_all
  obtain ⟨A0, n0, c0, rfl⟩ := okWide_slice Tryz.underlying22 (hval 0 22 v0 rfl rfl)
  obtain ⟨fu0, ho0⟩ := h0
  obtain ⟨bs, hbl, hby, hRd, hnm⟩ := open_code Tryz.underlying22 Tryz.underlying5 (by kernel_rfl) ho0
  exact walk ⟨A0, n0, c0, bs⟩ hbl hby hnm W hRd
theorem proved : Rows.FnValuationSaid :=
  OpenClaim.holds_of_wide 5 Tryz.f5 rfl rfl rfl rfl rfl rfl rfl ⟨rfl, rfl, rfl, rfl, rfl⟩ rfl rfl rfl rfl rfl (by kernel_rfl) Tryz.func5 (by kernel_rfl)
    (of_decide_eq_true (by kernel_rfl)) (by unfold Func.isWrapper; first | (rw [if_pos (by decide +kernel)]; kernel_rfl) | (rw [if_neg (by decide +kernel)]; exact ⟨rfl, rfl⟩))
    (fun os started H enc _ => lifted os started H enc)
end fnValuation
end Go.Proofs.YtbjdbpdgacfcpaaGreat
