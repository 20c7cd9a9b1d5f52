/- The law on bonds: without interest they are worth what they pay; money that is kept is what came in and was not needed. No condition. -/
import Derived.Test.YtoabhnobgdjgkaaDrawB
import Derived.Test.YtoabhnobgdjgkaaDrawLaw
import Derived.Test.YtoabhnobgdjgkaaTail
import Derived.Test.YtoabhnobgdjgkaaHeld
import Derived.Test.YtoabhnobgdjgkaaLikes
import Derived.Test.YtoabhnobgdjgkaaBondR
import Derived.Test.YtoabhnobgdjgkaaKept2
import Derived.Test.YtoabhnobgdjgkaaBondMarket
import Derived.Test.YtoabhnobgdjgkaaStInt
import Derived.Test.YtoabhnobgdjgkaaLaw
import Derived.Test.YtoabhnobgdjgkaaBase2
namespace Go.Proofs.Ytoabhnobgdjgkaa
open Go.ChangeShapes Go.WideShapes Go.ChangeAt Go.RowKit Go.Deep
namespace fnBonds
set_option maxRecDepth 100000 in
set_option maxHeartbeats 8000000 in
theorem walk (K : Code) (hlen : K.bs.length = K.n) (hbyte : ∀ x ∈ K.bs, 0 ≤ x ∧ x ≤ 255) (hmax : K.n ≤ 9223372036854775807) (w : World) (hX : Rd w w.heap.size K.A 1 (byteRows K.bs)) :
    Calls Try.prog 7 #[.slice K.A K.n K.c] w fun e w' => e = .returned (.bool true) ∧ Below w.heap.size w w' := by
  by_cases hbig : 4096 < K.n
  · have hd : decide (4096 < K.n) = true := by simpa using hbig
    clear hX hbyte hlen
    go_enter Try.func7, Try.ntmps7
    go_wp2_with (go_at_call 22; refine (laws_big_any K.A K.n K.c _ (by omega)).mono ?_; rw [hd]; rintro e w' ⟨rfl, rfl⟩)
    go_ret
    exact ⟨rfl, Below.refl _ _⟩
  have hd : decide (4096 < K.n) = false := by simpa using hbig
  have hK : K.Ok := ⟨hlen, by omega, hbyte⟩
  have HH := Lib.hid ((Held.nil w).snoc hX)
  have HB := Lib.hid (Below.refl w.heap.size w)
  clear hX hbyte hlen hbig
  go_enter Try.func7, Try.ntmps7
  go_wp2_with (go_at_call 22; refine (laws_big_any K.A K.n K.c _ (by omega)).mono ?_; rw [hd]; rintro e w' ⟨rfl, rfl⟩)
  refine (spec_DrawMarketValue_any K hK _ (HH.out.get 0 rfl)).mono ?_
  rintro e w1 ⟨A0, n0, c0, r0, rfl, hE, hn0, hi0, hb⟩
  obtain ⟨xs0, hl0, hR, hf0⟩ := bonds_rd hE
  replace HB := Lib.hid (below_all HB.out hb)
  replace HH := Lib.hid ((HH.out.past hb).snoc hR)
  clear hb
  clear hE hR
  go_wp2_with fail
  refine (impl_MarketValue_any A0 n0 c0 xs0 r0 _ hl0 (by omega) (HH.out.get 1 rfl) hf0 hi0).mono ?_
  rintro e w2 ⟨rfl, hb⟩
  replace HB := Lib.hid (below_all HB.out hb)
  replace HH := Lib.hid (HH.out.past hb)
  clear hb
  go_wp2_with fail
  refine (spec_MarketValue_any A0 n0 c0 xs0 r0 _ hl0 (by omega) (HH.out.get 1 rfl) hf0 hi0).mono ?_
  rintro e w3 ⟨rfl, hb⟩
  replace HB := Lib.hid (below_all HB.out hb)
  replace HH := Lib.hid (HH.out.past hb)
  clear hb
  go_wp2_with fail
  refine (impl_MeanTerm_any A0 n0 c0 xs0 r0 _ hl0 (by omega) (HH.out.get 1 rfl) hf0 hi0).mono ?_
  rintro e w4 ⟨rfl, hb⟩
  replace HB := Lib.hid (below_all HB.out hb)
  replace HH := Lib.hid (HH.out.past hb)
  clear hb
  go_wp2_with fail
  refine (spec_MeanTerm_any A0 n0 c0 xs0 r0 _ hl0 (by omega) (HH.out.get 1 rfl) hf0 hi0).mono ?_
  rintro e w5 ⟨rfl, hb⟩
  replace HB := Lib.hid (below_all HB.out hb)
  replace HH := Lib.hid (HH.out.past hb)
  clear hb
  go_wp2_with fail
  refine (spec_DrawKeptMoney_any K hK _ (HH.out.get 0 rfl)).mono ?_
  rintro e w6 ⟨A1, n1, c1, A2, n2, c2, m1, rfl, hE, hn1, hE2, hn2, hi1, hb⟩
  obtain ⟨xs1, hl1, hR, hf1⟩ := bonds_rd hE
  obtain ⟨ys, hl2, hR2, hf2⟩ := ints_rd hE2
  have hg2 : ∀ y ∈ ys, In64 y := fun y hy => in64_of (by have := hf2 y hy; omega)
  replace HB := Lib.hid (below_all HB.out hb)
  replace HH := Lib.hid (((HH.out.past hb).snoc hR).snoc (hR2.past (Below.refl _ _)))
  clear hb
  clear hE hR
  clear hR2 hE2
  go_wp2_with fail
  refine (impl_KeptMoney_any A1 n1 c1 xs1 A2 n2 c2 ys m1 _ hl1 (by omega) (HH.out.get 2 rfl) hf1 hl2 (by omega) (HH.out.get 3 rfl) hg2 hi1).mono ?_
  rintro e w7 ⟨A3, n3, c3, rfl, hR, hb⟩
  have hl3 : ((keptMoneyP xs1 ys m1).1).length = n3 := by have := hR.len; simpa [intRows] using this
  have hc3 : n3 ≤ c3 := res_cap hR
  replace HB := Lib.hid (below_all HB.out hb)
  replace HH := Lib.hid ((HH.out.past hb).snoc hR.rd)
  clear hb
  clear hR
  go_wp2_with fail
  refine (spec_KeptMoney_any A1 n1 c1 xs1 A2 n2 c2 ys m1 _ hl1 (by omega) (HH.out.get 2 rfl) hf1 hl2 (by omega) (HH.out.get 3 rfl) hg2 hi1).mono ?_
  rintro e w8 ⟨A4, n4, c4, rfl, hR, hb⟩
  have hl4 : ((keptMoneyP xs1 ys m1).1).length = n4 := by have := hR.len; simpa [intRows] using this
  have hc4 : n4 ≤ c4 := res_cap hR
  replace HB := Lib.hid (below_all HB.out hb)
  replace HH := Lib.hid ((HH.out.past hb).snoc hR.rd)
  clear hb
  clear hR
  go_wp2_with fail
  refine (impl_DoCover_any A1 n1 c1 xs1 A2 n2 c2 ys m1 _ hl1 (by omega) (HH.out.get 2 rfl) hf1 hl2 (by omega) (HH.out.get 3 rfl) hg2 hi1).mono ?_
  rintro e w9 ⟨rfl, hb⟩
  replace HB := Lib.hid (below_all HB.out hb)
  replace HH := Lib.hid (HH.out.past hb)
  clear hb
  go_wp2_with fail
  refine (spec_DoCover_any A1 n1 c1 xs1 A2 n2 c2 ys m1 _ hl1 (by omega) (HH.out.get 2 rfl) hf1 hl2 (by omega) (HH.out.get 3 rfl) hg2 hi1).mono ?_
  rintro e w10 ⟨rfl, hb⟩
  replace HB := Lib.hid (below_all HB.out hb)
  replace HH := Lib.hid (HH.out.past hb)
  clear hb
  obtain rfl : n3 = n4 := by rw [← hl3, ← hl4]
  have hs3 : n3 ≤ 1048576 := by rw [← hl3]; exact keptMoney_small0 (n := n1) (n2 := n2) xs1 (by omega) hl1 hf1 ys (by omega) hl2 hg2 m1
  go_wp2_with fail
  refine (likeInts_any A3 n3 c3 A4 c4 (keptMoneyP xs1 ys m1).1 _ hl3 hs3 (HH.out.get 4 rfl) (HH.out.get 5 rfl)).mono ?_
  rintro e w11 ⟨rfl, hb⟩
  replace HB := Lib.hid (below_all HB.out hb)
  replace HH := Lib.hid (HH.out.past hb)
  clear hb
  go_wp2_with fail
  refine (impl_AreBonds_any A1 n1 c1 xs1 _ hl1 (by omega) (HH.out.get 2 rfl) hf1).mono ?_
  rintro e w12 ⟨rfl, hb⟩
  replace HB := Lib.hid (below_all HB.out hb)
  replace HH := Lib.hid (HH.out.past hb)
  clear hb
  go_wp2_with fail
  refine (spec_AreBonds_any A1 n1 c1 xs1 _ hl1 (by omega) (HH.out.get 2 rfl) hf1).mono ?_
  rintro e w13 ⟨rfl, hb⟩
  replace HB := Lib.hid (below_all HB.out hb)
  replace HH := Lib.hid (HH.out.past hb)
  clear hb
  clear hd hmax hK hi1 hc4 hl4
  generalize w13 = wz at HB HH ⊢
  cases hkm : ((keptMoneyP xs1 ys m1).2 == 0)
  · skip
    cases hmb : ((marketP xs0 r0).2 == 0)
    · have hmn : ((marketP xs0 r0).2 != 0) = true := by simpa [bne] using hmb
      go_wp2
      go_ret
      exact ⟨rfl, HB.out⟩
    · have hm0 : (marketP xs0 r0).2 = 0 := by simpa using hmb
      obtain ⟨f1, f2, f3, f4⟩ := market_good hm0
      have HF2 := Lib.hid f2; clear f2
      go_wp2_with fail
      refine (impl_FlowOf_any A0 n0 c0 xs0 _ hl0 (by omega) (HH.out.get 1 rfl) hf0).mono ?_
      rw [f1]
      rintro e v1 ⟨B5, p5, q5, rfl, hR, hb⟩
      have hp5 : p5 = 40 := by have := hR.len; rw [intRows_length, flowL_len] at this; exact this.symm
      subst hp5
      replace HB := Lib.hid (below_all HB.out hb)
      replace HH := Lib.hid ((HH.out.past hb).snoc hR.rd)
      clear hb hR f1
      go_wp2_with fail
      refine (impl_MarketValue_any A0 n0 c0 xs0 0 _ hl0 (by omega) (HH.out.get 1 rfl) hf0 (by unfold In64; omega)).mono ?_
      rw [HF2.out]
      rintro e v2 ⟨rfl, hb⟩
      replace HB := Lib.hid (below_all HB.out hb)
      replace HH := Lib.hid (HH.out.past hb)
      clear hb
      have HS := Lib.hid (SumOk.of (n := 40) (by decide) (by decide) (by rw [flowL_len]; exact Nat.le_refl _) f4 (by decide))
      have hdv : decide ((marketP xs0 r0).1 ≤ (flowL xs0).sum) = true := by simpa using f3
      generalize (marketP xs0 r0).1 = V at f3 hdv ⊢
      have HMB := Lib.hid (@mean_bound xs0 r0)
      generalize (meanTermP xs0 r0).1 = ma at HMB ⊢
      generalize (meanTermP xs0 r0).2.1 = mb at HMB ⊢
      generalize (meanTermP xs0 r0).2.2 = mc at HMB ⊢
      cases hmt : (mc == 0)
      · have hmt2 : (mc != 0) = true := by simpa [bne] using hmt
        go_wp2_with (go_at_call 38; refine (laws_sum_any B5 40 q5 (flowL xs0) _ (flowL_len xs0) (by omega) (HH.out.get 6 rfl) HS.out).mono ?_; rintro e w' ⟨rfl, rfl⟩)
        go_ret
        exact ⟨rfl, HB.out⟩
      · have hmt2 : (mc != 0) = false := by simpa [bne] using hmt
        obtain ⟨g1, g2, g3, g4⟩ := HMB.out (by simpa using hmt)
        have hd1 : decide (mb ≤ ma) = true := by simpa using g1
        have hd2 : decide (ma ≤ 40 * mb) = true := by simpa using g2
        go_wp2_with (go_at_call 38; refine (laws_sum_any B5 40 q5 (flowL xs0) _ (flowL_len xs0) (by omega) (HH.out.get 6 rfl) HS.out).mono ?_; rintro e w' ⟨rfl, rfl⟩)
        go_ret
        exact ⟨rfl, HB.out⟩
  rcases Nat.eq_zero_or_pos n3 with hz | hz
  · subst hz
    cases hmb : ((marketP xs0 r0).2 == 0)
    · have hmn : ((marketP xs0 r0).2 != 0) = true := by simpa [bne] using hmb
      go_wp2
      go_ret
      exact ⟨rfl, HB.out⟩
    · have hm0 : (marketP xs0 r0).2 = 0 := by simpa using hmb
      obtain ⟨f1, f2, f3, f4⟩ := market_good hm0
      have HF2 := Lib.hid f2; clear f2
      go_wp2_with fail
      refine (impl_FlowOf_any A0 n0 c0 xs0 _ hl0 (by omega) (HH.out.get 1 rfl) hf0).mono ?_
      rw [f1]
      rintro e v1 ⟨B5, p5, q5, rfl, hR, hb⟩
      have hp5 : p5 = 40 := by have := hR.len; rw [intRows_length, flowL_len] at this; exact this.symm
      subst hp5
      replace HB := Lib.hid (below_all HB.out hb)
      replace HH := Lib.hid ((HH.out.past hb).snoc hR.rd)
      clear hb hR f1
      go_wp2_with fail
      refine (impl_MarketValue_any A0 n0 c0 xs0 0 _ hl0 (by omega) (HH.out.get 1 rfl) hf0 (by unfold In64; omega)).mono ?_
      rw [HF2.out]
      rintro e v2 ⟨rfl, hb⟩
      replace HB := Lib.hid (below_all HB.out hb)
      replace HH := Lib.hid (HH.out.past hb)
      clear hb
      have HS := Lib.hid (SumOk.of (n := 40) (by decide) (by decide) (by rw [flowL_len]; exact Nat.le_refl _) f4 (by decide))
      have hdv : decide ((marketP xs0 r0).1 ≤ (flowL xs0).sum) = true := by simpa using f3
      generalize (marketP xs0 r0).1 = V at f3 hdv ⊢
      have HMB := Lib.hid (@mean_bound xs0 r0)
      generalize (meanTermP xs0 r0).1 = ma at HMB ⊢
      generalize (meanTermP xs0 r0).2.1 = mb at HMB ⊢
      generalize (meanTermP xs0 r0).2.2 = mc at HMB ⊢
      cases hmt : (mc == 0)
      · have hmt2 : (mc != 0) = true := by simpa [bne] using hmt
        go_wp2_with (go_at_call 38; refine (laws_sum_any B5 40 q5 (flowL xs0) _ (flowL_len xs0) (by omega) (HH.out.get 6 rfl) HS.out).mono ?_; rintro e w' ⟨rfl, rfl⟩)
        go_ret
        exact ⟨rfl, HB.out⟩
      · have hmt2 : (mc != 0) = false := by simpa [bne] using hmt
        obtain ⟨g1, g2, g3, g4⟩ := HMB.out (by simpa using hmt)
        have hd1 : decide (mb ≤ ma) = true := by simpa using g1
        have hd2 : decide (ma ≤ 40 * mb) = true := by simpa using g2
        go_wp2_with (go_at_call 38; refine (laws_sum_any B5 40 q5 (flowL xs0) _ (flowL_len xs0) (by omega) (HH.out.get 6 rfl) HS.out).mono ?_; rintro e w' ⟨rfl, rfl⟩)
        go_ret
        exact ⟨rfl, HB.out⟩
  obtain ⟨k1, k2, k3, k4, ⟨k5, k6⟩, k7⟩ := kept_good (show (keptMoneyP xs1 ys m1).2 = 0 by simpa using hkm)
  rw [k1] at hl3 HH
  have hn32 : n3 = n2 := by rw [← hl3, keptL_len, hl2]
  obtain ⟨m, hm⟩ : ∃ m, n3 = m + 1 := ⟨n3 - 1, by omega⟩
  have hz3 : (0 : Int) < (n3 : Int) := by omega
  have HM := Lib.hid hm; clear hm
  have HN32 := Lib.hid hn32; clear hn32
  go_wp2_with fail
  refine (impl_FlowOf_any A1 n1 c1 xs1 _ hl1 (by omega) (HH.out.get 2 rfl) hf1).mono ?_
  rw [k2]
  rintro e v0 ⟨B6, p6, q6, rfl, hR, hb⟩
  have hp6 : p6 = 40 := by have := hR.len; rw [intRows_length, flowL_len] at this; exact this.symm
  subst hp6
  have hq6 := res_cap hR
  replace HB := Lib.hid (below_all HB.out hb)
  replace HH := Lib.hid ((HH.out.past hb).snoc hR.rd)
  clear hb hR k1 k2
  go_wp2_with fail
  obtain ⟨z, hz⟩ := get_of_lt (xs := keptL xs1 ys m1) (k := m) (by rw [hl3, HM.out]; omega)
  have hlast := kept_last (by rw [hl2]; have := k3; omega) (n := m) (by rw [hl2, ← HN32.out, HM.out]) hz
  have hk2 : n2 ≤ 40 := by rw [← hl2]; exact k3
  obtain ⟨f0, hf0'⟩ := get_of_lt (xs := flowL xs1) (k := 0) (by rw [flowL_len]; omega)
  obtain ⟨ad3, rfl, had3, hc3'⟩ := ((HH.out.get 4 rfl)).int_at hz
  obtain ⟨ad6, rfl, had6, _⟩ := ((HH.out.get 6 rfl)).int_at hf0'
  have HRT := Lib.hid (show Rd v0 v0.heap.size (some ad6) 1 (intRows ((flowL xs1).take n2)) from by
    have h := ((HH.out.get 6 rfl)).take n2
    have e : (intRows (flowL xs1)).take n2 = intRows ((flowL xs1).take n2) := by simp [intRows]
    rw [e] at h; exact h)
  have HRY := Lib.hid (HH.out.get 3 rfl)
  have HS1 := Lib.hid (SumOk.of (xs := (flowL xs1).take n2) (n := 40) (by decide) (by decide) (by simp; omega) (fun v hv => k7 v (List.mem_of_mem_take hv)) (by decide))
  have HS2 := Lib.hid (SumOk.of (xs := ys) (n := 40) (by decide) (by decide) k3 k4 (by decide))
  have hL1 : ((flowL xs1).take n2).length = n2 := by rw [List.length_take, flowL_len]; omega
  have hb1 := sumOk_of (n := 40) (by decide) (by decide) ((flowL xs1).take n2) (by simp; omega) (fun v hv => k7 v (List.mem_of_mem_take hv))
  have hb2 := sumOk_of (n := 40) (by decide) (by decide) ys k3 k4
  rw [hl2] at hlast
  have HC3 := Lib.hid hc3'
  clear hz hf0' k4 k7 hc3'
  obtain ⟨S1, hS1⟩ : ∃ S1, ((flowL xs1).take n2).sum = S1 := ⟨_, rfl⟩
  obtain ⟨S2, hS2⟩ : ∃ S2, ys.sum = S2 := ⟨_, rfl⟩
  rw [hS1] at hlast hb1
  rw [hS2] at hlast hb2
  have HE1 := Lib.hid hS1; clear hS1
  have HE2 := Lib.hid hS2; clear hS2
  have hw1 : IntKind.i64.wrap (m1 + S1) = m1 + S1 := IntWalk.i64_in _ (by omega)
  have hw2 : IntKind.i64.wrap (m1 + S1 - S2) = z := by rw [IntWalk.i64_in _ (by omega)]; exact hlast.symm
  have hwi : IntKind.i64.wrap ((n3 : Int) - 1) = (m : Int) := by have := HM.out; rw [IntWalk.i64_in _ (by omega)]; omega
  have hmi : (m : Int) < (n3 : Int) := by have := HM.out; omega
  have hn2q : (n2 : Int) ≤ (q6 : Int) := by omega
  have hn2q' : n2 ≤ q6 := by omega
  have d0 := fun y : Past v0 => Past.cell HC3.out y
  clear hlast hb1 hb2
  have P1 := fun x : Past v0 => past_same (x := x) ((laws_sum_any (some ad6) n2 q6 ((flowL xs1).take n2) _ hL1 (by omega) (HRT.out.past x.2) HS1.out).mono (by rw [HE1.out]; exact fun _ _ h => h))
  have P2 := fun x : Past v0 => past_same (x := x) ((laws_sum_any A2 n2 c2 ys _ hl2 (by omega) (HRY.out.past x.2) HS2.out).mono (by rw [HE2.out]; exact fun _ _ h => h))
  refine wp_region_past (by kernel_rfl) (by kernel_rfl) ?_
  repeat (first | (go_big_quiet_want; (first | fail); go_simp; go_big_quiet_on) | go_big_quiet_step ((go_at_call 38; first | with_reducible exact P1 _ | with_reducible exact P2 _)))
  refine wpQuiet_nil ?_
  rintro _ ⟨y, rfl⟩
  replace HB := Lib.hid (below_all HB.out y.2)
  replace HH := Lib.hid (HH.out.past y.2)
  clear hw1 hw2 hwi hmi hn2q hn2q' d0 P1 P2
  cases hmb : ((marketP xs0 r0).2 == 0)
  · have hmn : ((marketP xs0 r0).2 != 0) = true := by simpa [bne] using hmb
    go_wp2
    go_ret
    exact ⟨rfl, HB.out⟩
  · have hm0 : (marketP xs0 r0).2 = 0 := by simpa using hmb
    obtain ⟨f1, f2, f3, f4⟩ := market_good hm0
    have HF2 := Lib.hid f2; clear f2
    go_wp2_with fail
    refine (impl_FlowOf_any A0 n0 c0 xs0 _ hl0 (by omega) (HH.out.get 1 rfl) hf0).mono ?_
    rw [f1]
    rintro e v1 ⟨B5, p5, q5, rfl, hR, hb⟩
    have hp5 : p5 = 40 := by have := hR.len; rw [intRows_length, flowL_len] at this; exact this.symm
    subst hp5
    replace HB := Lib.hid (below_all HB.out hb)
    replace HH := Lib.hid ((HH.out.past hb).snoc hR.rd)
    clear hb hR f1
    go_wp2_with fail
    refine (impl_MarketValue_any A0 n0 c0 xs0 0 _ hl0 (by omega) (HH.out.get 1 rfl) hf0 (by unfold In64; omega)).mono ?_
    rw [HF2.out]
    rintro e v2 ⟨rfl, hb⟩
    replace HB := Lib.hid (below_all HB.out hb)
    replace HH := Lib.hid (HH.out.past hb)
    clear hb
    have HS := Lib.hid (SumOk.of (n := 40) (by decide) (by decide) (by rw [flowL_len]; exact Nat.le_refl _) f4 (by decide))
    have hdv : decide ((marketP xs0 r0).1 ≤ (flowL xs0).sum) = true := by simpa using f3
    generalize (marketP xs0 r0).1 = V at f3 hdv ⊢
    have HMB := Lib.hid (@mean_bound xs0 r0)
    generalize (meanTermP xs0 r0).1 = ma at HMB ⊢
    generalize (meanTermP xs0 r0).2.1 = mb at HMB ⊢
    generalize (meanTermP xs0 r0).2.2 = mc at HMB ⊢
    cases hmt : (mc == 0)
    · have hmt2 : (mc != 0) = true := by simpa [bne] using hmt
      go_wp2_with (go_at_call 38; refine (laws_sum_any B5 40 q5 (flowL xs0) _ (flowL_len xs0) (by omega) (HH.out.get 7 rfl) HS.out).mono ?_; rintro e w' ⟨rfl, rfl⟩)
      go_ret
      exact ⟨rfl, HB.out⟩
    · have hmt2 : (mc != 0) = false := by simpa [bne] using hmt
      obtain ⟨g1, g2, g3, g4⟩ := HMB.out (by simpa using hmt)
      have hd1 : decide (mb ≤ ma) = true := by simpa using g1
      have hd2 : decide (ma ≤ 40 * mb) = true := by simpa using g2
      go_wp2_with (go_at_call 38; refine (laws_sum_any B5 40 q5 (flowL xs0) _ (flowL_len xs0) (by omega) (HH.out.get 7 rfl) HS.out).mono ?_; rintro e w' ⟨rfl, rfl⟩)
      go_ret
      exact ⟨rfl, HB.out⟩
set_option maxRecDepth 100000 in
theorem lifted (os : Os) (started : os.Started) (H : Type) (enc : TypeId × Value → H) :
    ReturnsInHanded {} Try.checked os 7 .any (Rows.fnBondsSpec.pre6 enc Try.prog Try.f7 Rows.fnBondsRow.domain false) (Rows.fnBondsSpec.post enc Try.prog Try.f7 false true false false) := by
  refine law_lifted os started H enc 4 (by kernel_rfl) Try.func7
    (ChangeSpec.witness6 (enc := enc) (C := Try.checked) false ⟨#[], #[.slice none 0 0], []⟩ 8 (by kernel_rfl) (by kernel_rfl) (by kernel_rfl) (by kernel_rfl)) rfl rfl Try.underlying4
    (by rw [Try.params7]; simp only [List.forall_mem_cons]; exact ⟨⟨by kernel_rfl, of_decide_eq_true (by kernel_rfl)⟩, by simp⟩) (fun ds hl => by
      match ds, hl with
      | [d0], _ => rfl) ?_
  intro W base args ds p hval hA
  rw [Try.params7] at hA hval
  obtain ⟨v0, vs0, d0, ds0, p0, q0, hargs, rfl, rfl, h0, rr0⟩ := trodAll_cons hA
  obtain ⟨rfl, rfl, rfl⟩ := trodAll_nil rr0
  obtain rfl : args = #[v0] := by cases args; simp_all
  obtain ⟨A0, n0, c0, rfl⟩ := okWide_slice Try.underlying43 (hval 0 43 v0 rfl rfl)
  obtain ⟨fu0, ho0⟩ := h0
  obtain ⟨bs, hbl, hby, hRd, hnm⟩ := open_code Try.underlying43 Try.underlying5 (by kernel_rfl) ho0
  exact walk ⟨A0, n0, c0, bs⟩ hbl hby hnm W hRd
theorem proved : Rows.FnBondsSaid :=
  OpenClaim.holds_of_wide 7 Try.f7 rfl rfl rfl rfl rfl rfl rfl ⟨rfl, rfl, rfl, rfl, rfl⟩ rfl rfl rfl rfl rfl (by kernel_rfl) Try.func7 (by kernel_rfl)
    (of_decide_eq_true (by kernel_rfl)) (by unfold Func.isWrapper; first | (rw [if_pos (by decide +kernel)]; kernel_rfl) | (rw [if_neg (by decide +kernel)]; exact ⟨rfl, rfl⟩))
    (fun os started H enc _ => lifted os started H enc)
end fnBonds
end Go.Proofs.Ytoabhnobgdjgkaa
