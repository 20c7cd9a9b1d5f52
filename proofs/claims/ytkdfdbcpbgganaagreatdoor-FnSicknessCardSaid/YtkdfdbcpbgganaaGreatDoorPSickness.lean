/- The law on sickness benefits: a longer time never costs less, and a sickness table is found from its text. No condition but the laid tables. -/
import Derived.Test.YtkdfdbcpbgganaaGreatDoorK0
import Derived.Test.YtkdfdbcpbgganaaGreatDoorK1
import Derived.Test.YtkdfdbcpbgganaaGreatDoorK13
import Derived.Test.YtkdfdbcpbgganaaGreatDoorK14
namespace Go.Proofs.YtkdfdbcpbgganaaGreatDoor
open Go.ChangeShapes Go.WideShapes Go.ChangeAt Go.RowKit Go.Deep
namespace fnSickness
set_option maxRecDepth 100000 in
set_option maxHeartbeats 16000000 in
theorem walk (K : Code) (hlen : K.bs.length = K.n) (hbyte : ∀ x ∈ K.bs, 0 ≤ x ∧ x ≤ 255) (hmax : K.n ≤ 9223372036854775807) (w : World) (hX : Rd w w.heap.size K.A 1 (byteRows K.bs)) (hEnv : Env w) :
    Calls Tryz.prog 3 #[.slice K.A K.n K.c] w fun e w' => e = .returned (.bool true) ∧ Below w.heap.size w w' := by
  by_cases hbig : 4096 < K.n
  · have hd : decide (4096 < K.n) = true := by simpa using hbig
    clear hX hbyte hlen hEnv
    go_enter Tryz.func3, Tryz.ntmps3
    go_wp2_with (go_at_call 5; refine (laws_big_any K.A K.n K.c _ (by omega)).mono ?_; rw [hd]; rintro e w' ⟨rfl, rfl⟩)
    go_ret
    exact ⟨rfl, Below.refl _ _⟩
  have hd : decide (4096 < K.n) = false := by simpa using hbig
  have hK : K.Ok := ⟨hlen, by omega, hbyte⟩
  have HX := Lib.hid hX
  have HB := Lib.hid (Below.refl w.heap.size w)
  have HEnv := Lib.hid hEnv
  clear hX hbyte hlen hbig hEnv
  go_enter Tryz.func3, Tryz.ntmps3
  go_wp2_with (go_at_call 5; refine (laws_big_any K.A K.n K.c _ (by omega)).mono ?_; rw [hd]; rintro e w' ⟨rfl, rfl⟩)
  refine (spec_DrawSickValue_any K hK _ HX.out).mono ?_
  rintro e w1 ⟨f0, A0, n0, c0, g0, B0, m0, d0, rate, age, q, pay, rfl, hE, hF, ⟨hn0, hm0⟩, hf0, hg0, hr, hag, hq, hpay, hb⟩
  obtain ⟨xs0, hL0, hc0⟩ := ints_lies hE hn0
  obtain ⟨ys0, hS0, hd0⟩ := sick_lies hF hm0
  have HT0 := Lib.hid hL0; have HS0 := Lib.hid hS0
  clear hE hF hL0 hS0
  obtain ⟨b, rfl, rfl, rfl, rfl, rfl, rfl, rfl, rfl⟩ : ∃ b : Ben, f0 = b.f ∧ xs0 = b.xs ∧ g0 = b.g ∧ ys0 = b.ws ∧ rate = b.rate ∧ age = b.age ∧ q = b.n ∧ pay = b.pay := ⟨⟨f0, xs0, g0, ys0, rate, age, q, pay⟩, rfl, rfl, rfl, rfl, rfl, rfl, rfl, rfl⟩
  have hf64 : In64 b.f := by unfold In64; omega
  have hg64 : In64 b.g := by unfold In64; omega
  obtain ⟨q0, q1⟩ := hq
  replace HX := Lib.hid (HX.out.past hb)
  replace HB := Lib.hid (below_all HB.out hb)
  clear hb
  obtain ⟨hb, hKa, hKs, hz⟩ := two_boxes w1 [.int .i64 b.f, .slice A0 n0 c0] [.int .i64 b.g, .slice B0 m0 d0] 26 28
  have HKa := Lib.hid hKa; have HKs := Lib.hid hKs
  clear hKa hKs hz
  replace HX := Lib.hid (HX.out.past hb)
  replace HT0 := Lib.hid (HT0.out.past hb)
  replace HS0 := Lib.hid (HS0.out.past hb)
  replace HB := Lib.hid (below_all HB.out hb)
  clear hb
  go_upto_region 4 with (fail)
  generalize ((w1.alloc (.cells #[.int .i64 b.f, .slice A0 n0 c0] 26)).alloc (.cells #[.int .i64 b.g, .slice B0 m0 d0] 28)) = va at HB HX HT0 HS0 HKa HKs ⊢
  obtain ⟨ga, hga⟩ : ∃ ga, w1.heap.size = ga := ⟨_, rfl⟩
  obtain ⟨gs, hgs⟩ : ∃ gs, ga + 1 = gs := ⟨_, rfl⟩
  rw [hga] at HKa HKs ⊢
  rw [hgs] at HKs ⊢
  clear hga hgs
  have k0_a := HKa.out.cell 0; have k1_a := HKa.out.cell 1
  change _ = some (Value.int .i64 b.f) at k0_a; change _ = some (Value.slice A0 n0 c0) at k1_a
  have k0_s := HKs.out.cell 0; have k1_s := HKs.out.cell 1
  change _ = some (Value.int .i64 b.g) at k0_s; change _ = some (Value.slice B0 m0 d0) at k1_s
  go_wp2_with fail
  refine (impl_SickValue_any b A0 n0 c0 B0 m0 d0 _ HT0.out hc0 hf64 HS0.out).mono ?_
  rintro e w2 ⟨rfl, hb⟩
  clear k0_a k1_a k0_s k1_s
  replace HX := Lib.hid (HX.out.past hb)
  replace HT0 := Lib.hid (HT0.out.past hb)
  replace HS0 := Lib.hid (HS0.out.past hb)
  replace HKa := Lib.hid (HKa.out.below' hb)
  replace HKs := Lib.hid (HKs.out.below' hb)
  replace HB := Lib.hid (below_all HB.out hb)
  clear hb
  have k0_a := HKa.out.cell 0; have k1_a := HKa.out.cell 1
  change _ = some (Value.int .i64 b.f) at k0_a; change _ = some (Value.slice A0 n0 c0) at k1_a
  have k0_s := HKs.out.cell 0; have k1_s := HKs.out.cell 1
  change _ = some (Value.int .i64 b.g) at k0_s; change _ = some (Value.slice B0 m0 d0) at k1_s
  go_wp2_with fail
  refine (spec_SickValue_any b A0 n0 c0 B0 m0 d0 _ HT0.out hc0 hf64 HS0.out).mono ?_
  rintro e w3 ⟨rfl, hb⟩
  clear k0_a k1_a k0_s k1_s
  replace HX := Lib.hid (HX.out.past hb)
  replace HT0 := Lib.hid (HT0.out.past hb)
  replace HS0 := Lib.hid (HS0.out.past hb)
  replace HKa := Lib.hid (HKa.out.below' hb)
  replace HKs := Lib.hid (HKs.out.below' hb)
  replace HB := Lib.hid (below_all HB.out hb)
  clear hb
  have k0_a := HKa.out.cell 0; have k1_a := HKa.out.cell 1
  change _ = some (Value.int .i64 b.f) at k0_a; change _ = some (Value.slice A0 n0 c0) at k1_a
  have k0_s := HKs.out.cell 0; have k1_s := HKs.out.cell 1
  change _ = some (Value.int .i64 b.g) at k0_s; change _ = some (Value.slice B0 m0 d0) at k1_s
  go_wp2_with fail
  refine (impl_SickPremium_any b A0 n0 c0 B0 m0 d0 _ HT0.out hc0 hf64 HS0.out).mono ?_
  rintro e w4 ⟨rfl, hb⟩
  clear k0_a k1_a k0_s k1_s
  replace HX := Lib.hid (HX.out.past hb)
  replace HT0 := Lib.hid (HT0.out.past hb)
  replace HS0 := Lib.hid (HS0.out.past hb)
  replace HKa := Lib.hid (HKa.out.below' hb)
  replace HKs := Lib.hid (HKs.out.below' hb)
  replace HB := Lib.hid (below_all HB.out hb)
  clear hb
  have k0_a := HKa.out.cell 0; have k1_a := HKa.out.cell 1
  change _ = some (Value.int .i64 b.f) at k0_a; change _ = some (Value.slice A0 n0 c0) at k1_a
  have k0_s := HKs.out.cell 0; have k1_s := HKs.out.cell 1
  change _ = some (Value.int .i64 b.g) at k0_s; change _ = some (Value.slice B0 m0 d0) at k1_s
  go_wp2_with fail
  refine (spec_SickPremium_any b A0 n0 c0 B0 m0 d0 _ HT0.out hc0 hf64 HS0.out).mono ?_
  rintro e w5 ⟨rfl, hb⟩
  clear k0_a k1_a k0_s k1_s
  replace HX := Lib.hid (HX.out.past hb)
  replace HT0 := Lib.hid (HT0.out.past hb)
  replace HS0 := Lib.hid (HS0.out.past hb)
  replace HKa := Lib.hid (HKa.out.below' hb)
  replace HKs := Lib.hid (HKs.out.below' hb)
  replace HB := Lib.hid (below_all HB.out hb)
  clear hb
  have k0_s := HKs.out.cell 0; have k1_s := HKs.out.cell 1
  change _ = some (Value.int .i64 b.g) at k0_s; change _ = some (Value.slice B0 m0 d0) at k1_s
  go_wp2_with fail
  refine (impl_SickText_any b.g B0 m0 d0 b.ws _ HS0.out hg64 (HEnv.out.past HB.out).tab).mono ?_
  rintro e w6 ⟨rfl, hb⟩
  clear k0_s k1_s
  replace HX := Lib.hid (HX.out.past hb)
  replace HT0 := Lib.hid (HT0.out.past hb)
  replace HS0 := Lib.hid (HS0.out.past hb)
  replace HKa := Lib.hid (HKa.out.below' hb)
  replace HKs := Lib.hid (HKs.out.below' hb)
  replace HB := Lib.hid (below_all HB.out hb)
  clear hb
  have hts := sickP_size b.g b.ws
  obtain ⟨st, hst⟩ : ∃ st, S (sickP b.g b.ws) = st := ⟨_, rfl⟩
  rw [hst] at hts ⊢
  have HST := Lib.hid hst
  clear hst
  go_wp2_with fail
  refine (impl_ReadSick_any st (by omega) _ (HEnv.out.past HB.out)).mono ?_
  rintro e w7 ⟨f1, A1, n1, c1, b1, xs1, rfl, hL, hc1, hf1, hy1, hz1, hu1, hb⟩
  have HT1 := Lib.hid hL; have HF1 := Lib.hid hf1; have HY1 := Lib.hid hy1; have HZ1 := Lib.hid hz1; have HU1 := Lib.hid hu1
  clear hL hf1 hy1 hz1 hu1
  replace HX := Lib.hid (HX.out.past hb)
  replace HT0 := Lib.hid (HT0.out.past hb)
  replace HS0 := Lib.hid (HS0.out.past hb)
  replace HKa := Lib.hid (HKa.out.below' hb)
  replace HKs := Lib.hid (HKs.out.below' hb)
  replace HB := Lib.hid (below_all HB.out hb)
  clear hb
  have hb : Below w7.heap.size w7 (w7.alloc (.cells #[.int .i64 f1, .slice A1 n1 c1] 28)) := (Below.refl _ _).alloc (Nat.le_refl _) _
  have HKb := Lib.hid (Blk.new w7 28 #[.int .i64 f1, .slice A1 n1 c1])
  replace HX := Lib.hid (HX.out.past hb)
  replace HT0 := Lib.hid (HT0.out.past hb)
  replace HS0 := Lib.hid (HS0.out.past hb)
  replace HKa := Lib.hid (HKa.out.below' hb)
  replace HKs := Lib.hid (HKs.out.below' hb)
  replace HT1 := Lib.hid (HT1.out.past hb)
  replace HB := Lib.hid (below_all HB.out hb)
  clear hb
  go_wp2_with fail
  generalize w7.alloc (.cells #[.int .i64 f1, .slice A1 n1 c1] 28) = vb at HB HX HT0 HS0 HKa HKs HT1 HKb ⊢
  generalize w7.heap.size = gb at HKb ⊢
  go_wp2_with fail
  refine (spec_DrawReadSick_any K hK _ HX.out).mono ?_
  rintro e w8 ⟨r, rfl, hr2, hb⟩
  replace HX := Lib.hid (HX.out.past hb)
  replace HT0 := Lib.hid (HT0.out.past hb)
  replace HS0 := Lib.hid (HS0.out.past hb)
  replace HKa := Lib.hid (HKa.out.below' hb)
  replace HKs := Lib.hid (HKs.out.below' hb)
  replace HT1 := Lib.hid (HT1.out.past hb)
  replace HKb := Lib.hid (HKb.out.below' hb)
  replace HB := Lib.hid (below_all HB.out hb)
  clear hb
  go_wp2_with fail
  refine (impl_ReadSick_any r (by omega) _ (HEnv.out.past HB.out)).mono ?_
  rintro e w9 ⟨f2, A2, n2, c2, b2, xs2, rfl, hL, hc2, hf2, hy2, hz2, hu2, hb⟩
  have HT2 := Lib.hid hL; have HF2 := Lib.hid hf2; have HY2 := Lib.hid hy2; have HZ2 := Lib.hid hz2; have HU2 := Lib.hid hu2
  clear hL hf2 hy2 hz2 hu2
  replace HX := Lib.hid (HX.out.past hb)
  replace HT0 := Lib.hid (HT0.out.past hb)
  replace HS0 := Lib.hid (HS0.out.past hb)
  replace HKa := Lib.hid (HKa.out.below' hb)
  replace HKs := Lib.hid (HKs.out.below' hb)
  replace HT1 := Lib.hid (HT1.out.past hb)
  replace HKb := Lib.hid (HKb.out.below' hb)
  replace HB := Lib.hid (below_all HB.out hb)
  clear hb
  have hb : Below w9.heap.size w9 (w9.alloc (.cells #[.int .i64 f2, .slice A2 n2 c2] 28)) := (Below.refl _ _).alloc (Nat.le_refl _) _
  have HKd := Lib.hid (Blk.new w9 28 #[.int .i64 f2, .slice A2 n2 c2])
  replace HX := Lib.hid (HX.out.past hb)
  replace HT0 := Lib.hid (HT0.out.past hb)
  replace HS0 := Lib.hid (HS0.out.past hb)
  replace HKa := Lib.hid (HKa.out.below' hb)
  replace HKs := Lib.hid (HKs.out.below' hb)
  replace HT1 := Lib.hid (HT1.out.past hb)
  replace HKb := Lib.hid (HKb.out.below' hb)
  replace HT2 := Lib.hid (HT2.out.past hb)
  replace HB := Lib.hid (below_all HB.out hb)
  clear hb
  go_wp2_with fail
  generalize w9.alloc (.cells #[.int .i64 f2, .slice A2 n2 c2] 28) = vd at HB HX HT0 HS0 HKa HKs HT1 HKb HT2 HKd ⊢
  generalize w9.heap.size = gd at HKd ⊢
  go_wp2_with fail
  refine (spec_ReadSick_any r (by omega) _).mono ?_
  rintro e w10 ⟨f3, A3, n3, c3, b3, xs3, rfl, hL, hc3, hf3, hy3, hz3, hu3, hb⟩
  have HT3 := Lib.hid hL; have HF3 := Lib.hid hf3; have HY3 := Lib.hid hy3; have HZ3 := Lib.hid hz3; have HU3 := Lib.hid hu3
  clear hL hf3 hy3 hz3 hu3
  replace HX := Lib.hid (HX.out.past hb)
  replace HT0 := Lib.hid (HT0.out.past hb)
  replace HS0 := Lib.hid (HS0.out.past hb)
  replace HKa := Lib.hid (HKa.out.below' hb)
  replace HKs := Lib.hid (HKs.out.below' hb)
  replace HT1 := Lib.hid (HT1.out.past hb)
  replace HKb := Lib.hid (HKb.out.below' hb)
  replace HT2 := Lib.hid (HT2.out.past hb)
  replace HKd := Lib.hid (HKd.out.below' hb)
  replace HB := Lib.hid (below_all HB.out hb)
  clear hb
  have hb : Below w10.heap.size w10 (w10.alloc (.cells #[.int .i64 f3, .slice A3 n3 c3] 28)) := (Below.refl _ _).alloc (Nat.le_refl _) _
  have HKe := Lib.hid (Blk.new w10 28 #[.int .i64 f3, .slice A3 n3 c3])
  replace HX := Lib.hid (HX.out.past hb)
  replace HT0 := Lib.hid (HT0.out.past hb)
  replace HS0 := Lib.hid (HS0.out.past hb)
  replace HKa := Lib.hid (HKa.out.below' hb)
  replace HKs := Lib.hid (HKs.out.below' hb)
  replace HT1 := Lib.hid (HT1.out.past hb)
  replace HKb := Lib.hid (HKb.out.below' hb)
  replace HT2 := Lib.hid (HT2.out.past hb)
  replace HKd := Lib.hid (HKd.out.below' hb)
  replace HT3 := Lib.hid (HT3.out.past hb)
  replace HB := Lib.hid (below_all HB.out hb)
  clear hb
  have hyz : f2 = f3 ∧ xs2 = xs3 ∧ b2 = b3 := by
    cases hb2 : b2
    · cases hb3 : b3
      · obtain ⟨h1, h2⟩ := HZ2.out hb2
        obtain ⟨h3, h4⟩ := HZ3.out hb3
        exact ⟨h1.trans h3.symm, h2.trans h4.symm, rfl⟩
      · obtain ⟨h1, h2⟩ := HY3.out hb3
        have := (HU2.out _ _ h1 h2).2.2
        rw [hb2] at this; cases this
    · obtain ⟨h1, h2⟩ := HY2.out hb2
      obtain ⟨h3, h4, h5⟩ := HU3.out _ _ h1 h2
      exact ⟨h3.symm, h4.symm, h5.symm⟩
  obtain ⟨rfl, rfl, rfl⟩ := hyz
  have hn23 : n2 = n3 := HT2.out.len.symm.trans HT3.out.len
  subst hn23
  have HTX := Lib.hid (fun (h : b2 = true) => (show S (sickP f2 xs2) = r from by
    obtain ⟨h1, h2⟩ := HY2.out h
    rw [sickP_yes h1, ← h2]
    exact S_of r))
  cases htb : sickB b.g b.ws
  · have HSE := Lib.hid (show st = S [] from by rw [← HST.out, sickP_no htb])
    have hb1 : b1 = false := by
      cases hb : b1
      · rfl
      · have h1 := (HY1.out hb).2
        rw [HSE.out, S_list] at h1
        exact absurd h1.symm (numsL_ne _ _)
    subst hb1
    have hse : st.toList.isEmpty = true := by rw [HSE.out, ByteArray.toList_eq, S_list]; rfl
    cases b2
    · skip
      have k0_s := HKs.out.cell 0; have k1_s := HKs.out.cell 1
      change _ = some (Value.int .i64 b.g) at k0_s; change _ = some (Value.slice B0 m0 d0) at k1_s
      have k0_b := HKb.out.cell 0; have k1_b := HKb.out.cell 1
      change _ = some (Value.int .i64 f1) at k0_b; change _ = some (Value.slice A1 n1 c1) at k1_b
      have k0_d := HKd.out.cell 0; have k1_d := HKd.out.cell 1
      change _ = some (Value.int .i64 f2) at k0_d; change _ = some (Value.slice A2 n2 c2) at k1_d
      have k0_e := HKe.out.cell 0; have k1_e := HKe.out.cell 1
      change _ = some (Value.int .i64 f2) at k0_e; change _ = some (Value.slice A3 n2 c3) at k1_e
      go_wp2_with fail
      refine (spec_SickText_any b.g B0 m0 d0 b.ws _ HS0.out hg64).mono ?_
      rw [HST.out]
      rintro e u11 ⟨rfl, hb⟩
      clear k0_s k1_s k0_b k1_b k0_d k1_d k0_e k1_e
      replace HX := Lib.hid (HX.out.past hb)
      replace HT0 := Lib.hid (HT0.out.past hb)
      replace HS0 := Lib.hid (HS0.out.past hb)
      replace HKa := Lib.hid (HKa.out.below' hb)
      replace HKs := Lib.hid (HKs.out.below' hb)
      replace HT1 := Lib.hid (HT1.out.past hb)
      replace HKb := Lib.hid (HKb.out.below' hb)
      replace HT2 := Lib.hid (HT2.out.past hb)
      replace HKd := Lib.hid (HKd.out.below' hb)
      replace HT3 := Lib.hid (HT3.out.past hb)
      replace HKe := Lib.hid (HKe.out.below' hb)
      replace HB := Lib.hid (below_all HB.out hb)
      clear hb
      have k0_s := HKs.out.cell 0; have k1_s := HKs.out.cell 1
      change _ = some (Value.int .i64 b.g) at k0_s; change _ = some (Value.slice B0 m0 d0) at k1_s
      have k0_b := HKb.out.cell 0; have k1_b := HKb.out.cell 1
      change _ = some (Value.int .i64 f1) at k0_b; change _ = some (Value.slice A1 n1 c1) at k1_b
      have k0_d := HKd.out.cell 0; have k1_d := HKd.out.cell 1
      change _ = some (Value.int .i64 f2) at k0_d; change _ = some (Value.slice A2 n2 c2) at k1_d
      have k0_e := HKe.out.cell 0; have k1_e := HKe.out.cell 1
      change _ = some (Value.int .i64 f2) at k0_e; change _ = some (Value.slice A3 n2 c3) at k1_e
      go_wp2_with fail
      refine (likeSicks9_any f2 A2 n2 c2 A3 c3 xs2 _ HT2.out.len HT2.out.small HT2.out.rd HT3.out.rd).mono ?_
      rintro e u12 ⟨rfl, hb⟩
      clear k0_s k1_s k0_b k1_b k0_d k1_d k0_e k1_e
      replace HX := Lib.hid (HX.out.past hb)
      replace HT0 := Lib.hid (HT0.out.past hb)
      replace HS0 := Lib.hid (HS0.out.past hb)
      replace HKa := Lib.hid (HKa.out.below' hb)
      replace HKs := Lib.hid (HKs.out.below' hb)
      replace HT1 := Lib.hid (HT1.out.past hb)
      replace HKb := Lib.hid (HKb.out.below' hb)
      replace HT2 := Lib.hid (HT2.out.past hb)
      replace HKd := Lib.hid (HKd.out.below' hb)
      replace HT3 := Lib.hid (HT3.out.past hb)
      replace HKe := Lib.hid (HKe.out.below' hb)
      replace HB := Lib.hid (below_all HB.out hb)
      clear hb
      have k0_s := HKs.out.cell 0; have k1_s := HKs.out.cell 1
      change _ = some (Value.int .i64 b.g) at k0_s; change _ = some (Value.slice B0 m0 d0) at k1_s
      have k0_b := HKb.out.cell 0; have k1_b := HKb.out.cell 1
      change _ = some (Value.int .i64 f1) at k0_b; change _ = some (Value.slice A1 n1 c1) at k1_b
      have k0_d := HKd.out.cell 0; have k1_d := HKd.out.cell 1
      change _ = some (Value.int .i64 f2) at k0_d; change _ = some (Value.slice A2 n2 c2) at k1_d
      have k0_e := HKe.out.cell 0; have k1_e := HKe.out.cell 1
      change _ = some (Value.int .i64 f2) at k0_e; change _ = some (Value.slice A3 n2 c3) at k1_e
      go_wp2_with fail
      refine (impl_IsSickTable_any b.g B0 m0 d0 b.ws _ HS0.out).mono ?_
      rw [htb]
      rintro e u13 ⟨rfl, hb⟩
      clear k0_s k1_s k0_b k1_b k0_d k1_d k0_e k1_e
      replace HX := Lib.hid (HX.out.past hb)
      replace HT0 := Lib.hid (HT0.out.past hb)
      replace HS0 := Lib.hid (HS0.out.past hb)
      replace HKa := Lib.hid (HKa.out.below' hb)
      replace HKs := Lib.hid (HKs.out.below' hb)
      replace HT1 := Lib.hid (HT1.out.past hb)
      replace HKb := Lib.hid (HKb.out.below' hb)
      replace HT2 := Lib.hid (HT2.out.past hb)
      replace HKd := Lib.hid (HKd.out.below' hb)
      replace HT3 := Lib.hid (HT3.out.past hb)
      replace HKe := Lib.hid (HKe.out.below' hb)
      replace HB := Lib.hid (below_all HB.out hb)
      clear hb
      have hbb : (b.code == 0) = false := by rw [code_sick htb]; rfl
      go_wp2
      go_ret
      exact ⟨rfl, HB.out⟩
    · skip
      have k0_s := HKs.out.cell 0; have k1_s := HKs.out.cell 1
      change _ = some (Value.int .i64 b.g) at k0_s; change _ = some (Value.slice B0 m0 d0) at k1_s
      have k0_b := HKb.out.cell 0; have k1_b := HKb.out.cell 1
      change _ = some (Value.int .i64 f1) at k0_b; change _ = some (Value.slice A1 n1 c1) at k1_b
      have k0_d := HKd.out.cell 0; have k1_d := HKd.out.cell 1
      change _ = some (Value.int .i64 f2) at k0_d; change _ = some (Value.slice A2 n2 c2) at k1_d
      have k0_e := HKe.out.cell 0; have k1_e := HKe.out.cell 1
      change _ = some (Value.int .i64 f2) at k0_e; change _ = some (Value.slice A3 n2 c3) at k1_e
      go_wp2_with fail
      refine (spec_SickText_any b.g B0 m0 d0 b.ws _ HS0.out hg64).mono ?_
      rw [HST.out]
      rintro e u11 ⟨rfl, hb⟩
      clear k0_s k1_s k0_b k1_b k0_d k1_d k0_e k1_e
      replace HX := Lib.hid (HX.out.past hb)
      replace HT0 := Lib.hid (HT0.out.past hb)
      replace HS0 := Lib.hid (HS0.out.past hb)
      replace HKa := Lib.hid (HKa.out.below' hb)
      replace HKs := Lib.hid (HKs.out.below' hb)
      replace HT1 := Lib.hid (HT1.out.past hb)
      replace HKb := Lib.hid (HKb.out.below' hb)
      replace HT2 := Lib.hid (HT2.out.past hb)
      replace HKd := Lib.hid (HKd.out.below' hb)
      replace HT3 := Lib.hid (HT3.out.past hb)
      replace HKe := Lib.hid (HKe.out.below' hb)
      replace HB := Lib.hid (below_all HB.out hb)
      clear hb
      have k0_s := HKs.out.cell 0; have k1_s := HKs.out.cell 1
      change _ = some (Value.int .i64 b.g) at k0_s; change _ = some (Value.slice B0 m0 d0) at k1_s
      have k0_b := HKb.out.cell 0; have k1_b := HKb.out.cell 1
      change _ = some (Value.int .i64 f1) at k0_b; change _ = some (Value.slice A1 n1 c1) at k1_b
      have k0_d := HKd.out.cell 0; have k1_d := HKd.out.cell 1
      change _ = some (Value.int .i64 f2) at k0_d; change _ = some (Value.slice A2 n2 c2) at k1_d
      have k0_e := HKe.out.cell 0; have k1_e := HKe.out.cell 1
      change _ = some (Value.int .i64 f2) at k0_e; change _ = some (Value.slice A3 n2 c3) at k1_e
      go_wp2_with fail
      refine (likeSicks9_any f2 A2 n2 c2 A3 c3 xs2 _ HT2.out.len HT2.out.small HT2.out.rd HT3.out.rd).mono ?_
      rintro e u12 ⟨rfl, hb⟩
      clear k0_s k1_s k0_b k1_b k0_d k1_d k0_e k1_e
      replace HX := Lib.hid (HX.out.past hb)
      replace HT0 := Lib.hid (HT0.out.past hb)
      replace HS0 := Lib.hid (HS0.out.past hb)
      replace HKa := Lib.hid (HKa.out.below' hb)
      replace HKs := Lib.hid (HKs.out.below' hb)
      replace HT1 := Lib.hid (HT1.out.past hb)
      replace HKb := Lib.hid (HKb.out.below' hb)
      replace HT2 := Lib.hid (HT2.out.past hb)
      replace HKd := Lib.hid (HKd.out.below' hb)
      replace HT3 := Lib.hid (HT3.out.past hb)
      replace HKe := Lib.hid (HKe.out.below' hb)
      replace HB := Lib.hid (below_all HB.out hb)
      clear hb
      have k0_s := HKs.out.cell 0; have k1_s := HKs.out.cell 1
      change _ = some (Value.int .i64 b.g) at k0_s; change _ = some (Value.slice B0 m0 d0) at k1_s
      have k0_b := HKb.out.cell 0; have k1_b := HKb.out.cell 1
      change _ = some (Value.int .i64 f1) at k0_b; change _ = some (Value.slice A1 n1 c1) at k1_b
      have k0_d := HKd.out.cell 0; have k1_d := HKd.out.cell 1
      change _ = some (Value.int .i64 f2) at k0_d; change _ = some (Value.slice A2 n2 c2) at k1_d
      have k0_e := HKe.out.cell 0; have k1_e := HKe.out.cell 1
      change _ = some (Value.int .i64 f2) at k0_e; change _ = some (Value.slice A3 n2 c3) at k1_e
      go_wp2_with fail
      refine (impl_SickText_any f2 A2 n2 c2 xs2 _ HT2.out HF2.out (HEnv.out.past HB.out).tab).mono ?_
      rw [HTX.out (by simp)]
      rintro e u13 ⟨rfl, hb⟩
      clear k0_s k1_s k0_b k1_b k0_d k1_d k0_e k1_e
      replace HX := Lib.hid (HX.out.past hb)
      replace HT0 := Lib.hid (HT0.out.past hb)
      replace HS0 := Lib.hid (HS0.out.past hb)
      replace HKa := Lib.hid (HKa.out.below' hb)
      replace HKs := Lib.hid (HKs.out.below' hb)
      replace HT1 := Lib.hid (HT1.out.past hb)
      replace HKb := Lib.hid (HKb.out.below' hb)
      replace HT2 := Lib.hid (HT2.out.past hb)
      replace HKd := Lib.hid (HKd.out.below' hb)
      replace HT3 := Lib.hid (HT3.out.past hb)
      replace HKe := Lib.hid (HKe.out.below' hb)
      replace HB := Lib.hid (below_all HB.out hb)
      clear hb
      have k0_s := HKs.out.cell 0; have k1_s := HKs.out.cell 1
      change _ = some (Value.int .i64 b.g) at k0_s; change _ = some (Value.slice B0 m0 d0) at k1_s
      have k0_b := HKb.out.cell 0; have k1_b := HKb.out.cell 1
      change _ = some (Value.int .i64 f1) at k0_b; change _ = some (Value.slice A1 n1 c1) at k1_b
      have k0_d := HKd.out.cell 0; have k1_d := HKd.out.cell 1
      change _ = some (Value.int .i64 f2) at k0_d; change _ = some (Value.slice A2 n2 c2) at k1_d
      have k0_e := HKe.out.cell 0; have k1_e := HKe.out.cell 1
      change _ = some (Value.int .i64 f2) at k0_e; change _ = some (Value.slice A3 n2 c3) at k1_e
      go_wp2_with fail
      refine (impl_IsSickTable_any b.g B0 m0 d0 b.ws _ HS0.out).mono ?_
      rw [htb]
      rintro e u14 ⟨rfl, hb⟩
      clear k0_s k1_s k0_b k1_b k0_d k1_d k0_e k1_e
      replace HX := Lib.hid (HX.out.past hb)
      replace HT0 := Lib.hid (HT0.out.past hb)
      replace HS0 := Lib.hid (HS0.out.past hb)
      replace HKa := Lib.hid (HKa.out.below' hb)
      replace HKs := Lib.hid (HKs.out.below' hb)
      replace HT1 := Lib.hid (HT1.out.past hb)
      replace HKb := Lib.hid (HKb.out.below' hb)
      replace HT2 := Lib.hid (HT2.out.past hb)
      replace HKd := Lib.hid (HKd.out.below' hb)
      replace HT3 := Lib.hid (HT3.out.past hb)
      replace HKe := Lib.hid (HKe.out.below' hb)
      replace HB := Lib.hid (below_all HB.out hb)
      clear hb
      have hbb : (b.code == 0) = false := by rw [code_sick htb]; rfl
      go_wp2
      go_ret
      exact ⟨rfl, HB.out⟩
  · have HSE := Lib.hid (show st = S (numsL (b.g :: b.ws)) from by rw [← HST.out, sickP_yes htb])
    have h10 : f1 = b.g ∧ xs1 = b.ws ∧ b1 = true := HU1.out _ _ htb (by rw [HSE.out, S_list])
    obtain ⟨hf10, hx10, hb10⟩ := h10
    have hn10 : n1 = m0 := by rw [← HT1.out.len, ← HS0.out.len, hx10]
    rw [hf10, hn10] at HKb
    rw [hf10, hn10, hb10]
    rw [hx10, hn10] at HT1
    have hse : st.toList.isEmpty = false := by rw [HSE.out]; exact isEmpty_S (numsL_ne _ _)
    clear hf10 hx10 hn10 hb10
    cases b2
    · skip
      have k0_s := HKs.out.cell 0; have k1_s := HKs.out.cell 1
      change _ = some (Value.int .i64 b.g) at k0_s; change _ = some (Value.slice B0 m0 d0) at k1_s
      have k0_b := HKb.out.cell 0; have k1_b := HKb.out.cell 1
      change _ = some (Value.int .i64 b.g) at k0_b; change _ = some (Value.slice A1 m0 c1) at k1_b
      have k0_d := HKd.out.cell 0; have k1_d := HKd.out.cell 1
      change _ = some (Value.int .i64 f2) at k0_d; change _ = some (Value.slice A2 n2 c2) at k1_d
      have k0_e := HKe.out.cell 0; have k1_e := HKe.out.cell 1
      change _ = some (Value.int .i64 f2) at k0_e; change _ = some (Value.slice A3 n2 c3) at k1_e
      go_wp2_with fail
      refine (spec_SickText_any b.g B0 m0 d0 b.ws _ HS0.out hg64).mono ?_
      rw [HST.out]
      rintro e u11 ⟨rfl, hb⟩
      clear k0_s k1_s k0_b k1_b k0_d k1_d k0_e k1_e
      replace HX := Lib.hid (HX.out.past hb)
      replace HT0 := Lib.hid (HT0.out.past hb)
      replace HS0 := Lib.hid (HS0.out.past hb)
      replace HKa := Lib.hid (HKa.out.below' hb)
      replace HKs := Lib.hid (HKs.out.below' hb)
      replace HT1 := Lib.hid (HT1.out.past hb)
      replace HKb := Lib.hid (HKb.out.below' hb)
      replace HT2 := Lib.hid (HT2.out.past hb)
      replace HKd := Lib.hid (HKd.out.below' hb)
      replace HT3 := Lib.hid (HT3.out.past hb)
      replace HKe := Lib.hid (HKe.out.below' hb)
      replace HB := Lib.hid (below_all HB.out hb)
      clear hb
      have k0_s := HKs.out.cell 0; have k1_s := HKs.out.cell 1
      change _ = some (Value.int .i64 b.g) at k0_s; change _ = some (Value.slice B0 m0 d0) at k1_s
      have k0_b := HKb.out.cell 0; have k1_b := HKb.out.cell 1
      change _ = some (Value.int .i64 b.g) at k0_b; change _ = some (Value.slice A1 m0 c1) at k1_b
      have k0_d := HKd.out.cell 0; have k1_d := HKd.out.cell 1
      change _ = some (Value.int .i64 f2) at k0_d; change _ = some (Value.slice A2 n2 c2) at k1_d
      have k0_e := HKe.out.cell 0; have k1_e := HKe.out.cell 1
      change _ = some (Value.int .i64 f2) at k0_e; change _ = some (Value.slice A3 n2 c3) at k1_e
      go_wp2_with fail
      refine (likeSicks9_any b.g A1 m0 c1 B0 d0 b.ws _ HS0.out.len (by omega) HT1.out.rd HS0.out.rd).mono ?_
      rintro e u12 ⟨rfl, hb⟩
      clear k0_s k1_s k0_b k1_b k0_d k1_d k0_e k1_e
      replace HX := Lib.hid (HX.out.past hb)
      replace HT0 := Lib.hid (HT0.out.past hb)
      replace HS0 := Lib.hid (HS0.out.past hb)
      replace HKa := Lib.hid (HKa.out.below' hb)
      replace HKs := Lib.hid (HKs.out.below' hb)
      replace HT1 := Lib.hid (HT1.out.past hb)
      replace HKb := Lib.hid (HKb.out.below' hb)
      replace HT2 := Lib.hid (HT2.out.past hb)
      replace HKd := Lib.hid (HKd.out.below' hb)
      replace HT3 := Lib.hid (HT3.out.past hb)
      replace HKe := Lib.hid (HKe.out.below' hb)
      replace HB := Lib.hid (below_all HB.out hb)
      clear hb
      have k0_s := HKs.out.cell 0; have k1_s := HKs.out.cell 1
      change _ = some (Value.int .i64 b.g) at k0_s; change _ = some (Value.slice B0 m0 d0) at k1_s
      have k0_b := HKb.out.cell 0; have k1_b := HKb.out.cell 1
      change _ = some (Value.int .i64 b.g) at k0_b; change _ = some (Value.slice A1 m0 c1) at k1_b
      have k0_d := HKd.out.cell 0; have k1_d := HKd.out.cell 1
      change _ = some (Value.int .i64 f2) at k0_d; change _ = some (Value.slice A2 n2 c2) at k1_d
      have k0_e := HKe.out.cell 0; have k1_e := HKe.out.cell 1
      change _ = some (Value.int .i64 f2) at k0_e; change _ = some (Value.slice A3 n2 c3) at k1_e
      go_wp2_with fail
      refine (likeSicks9_any f2 A2 n2 c2 A3 c3 xs2 _ HT2.out.len HT2.out.small HT2.out.rd HT3.out.rd).mono ?_
      rintro e u13 ⟨rfl, hb⟩
      clear k0_s k1_s k0_b k1_b k0_d k1_d k0_e k1_e
      replace HX := Lib.hid (HX.out.past hb)
      replace HT0 := Lib.hid (HT0.out.past hb)
      replace HS0 := Lib.hid (HS0.out.past hb)
      replace HKa := Lib.hid (HKa.out.below' hb)
      replace HKs := Lib.hid (HKs.out.below' hb)
      replace HT1 := Lib.hid (HT1.out.past hb)
      replace HKb := Lib.hid (HKb.out.below' hb)
      replace HT2 := Lib.hid (HT2.out.past hb)
      replace HKd := Lib.hid (HKd.out.below' hb)
      replace HT3 := Lib.hid (HT3.out.past hb)
      replace HKe := Lib.hid (HKe.out.below' hb)
      replace HB := Lib.hid (below_all HB.out hb)
      clear hb
      have k0_s := HKs.out.cell 0; have k1_s := HKs.out.cell 1
      change _ = some (Value.int .i64 b.g) at k0_s; change _ = some (Value.slice B0 m0 d0) at k1_s
      have k0_b := HKb.out.cell 0; have k1_b := HKb.out.cell 1
      change _ = some (Value.int .i64 b.g) at k0_b; change _ = some (Value.slice A1 m0 c1) at k1_b
      have k0_d := HKd.out.cell 0; have k1_d := HKd.out.cell 1
      change _ = some (Value.int .i64 f2) at k0_d; change _ = some (Value.slice A2 n2 c2) at k1_d
      have k0_e := HKe.out.cell 0; have k1_e := HKe.out.cell 1
      change _ = some (Value.int .i64 f2) at k0_e; change _ = some (Value.slice A3 n2 c3) at k1_e
      go_wp2_with fail
      refine (impl_IsSickTable_any b.g B0 m0 d0 b.ws _ HS0.out).mono ?_
      rw [htb]
      rintro e u14 ⟨rfl, hb⟩
      clear k0_s k1_s k0_b k1_b k0_d k1_d k0_e k1_e
      replace HX := Lib.hid (HX.out.past hb)
      replace HT0 := Lib.hid (HT0.out.past hb)
      replace HS0 := Lib.hid (HS0.out.past hb)
      replace HKa := Lib.hid (HKa.out.below' hb)
      replace HKs := Lib.hid (HKs.out.below' hb)
      replace HT1 := Lib.hid (HT1.out.past hb)
      replace HKb := Lib.hid (HKb.out.below' hb)
      replace HT2 := Lib.hid (HT2.out.past hb)
      replace HKd := Lib.hid (HKd.out.below' hb)
      replace HT3 := Lib.hid (HT3.out.past hb)
      replace HKe := Lib.hid (HKe.out.below' hb)
      replace HB := Lib.hid (below_all HB.out hb)
      clear hb
      by_cases hbad : b.code = 0
      rotate_left
      · have hbb : (b.code == 0) = false := by simpa using hbad
        go_wp2
        go_ret
        exact ⟨rfl, HB.out⟩
      by_cases hone : b.n = 1
      · have hbb : (b.code == 0) = true := by simpa using hbad
        have hob : (b.n == 1) = true := by simpa using hone
        clear hbad hone
        go_wp2
        all_goals (go_ret; exact ⟨rfl, HB.out⟩)
      obtain ⟨hlc, hl1, hl2⟩ := less_facts hbad hone
      have HLC := Lib.hid hlc
      have hbb : (b.code == 0) = true := by simpa using hbad
      have hob : (b.n == 1) = false := by simpa using hone
      clear htb hlc hbad hone
      have HLS := Lib.hid (fun X (hT : LiesT X A0 n0 b.xs) (hS : LiesT X B0 m0 b.ws) => (show Calls Tryz.prog 7 #[.agg #[.int .i64 b.f, .slice A0 n0 c0], .agg #[.int .i64 b.g, .slice B0 m0 d0], .int .i64 b.rate, .int .i64 b.age, .int .i64 (b.n - 1), .int .i64 b.pay] X (fun e w' => e = .returned (.tuple #[.int .i64 b.less.v, .int .i64 b.less.code]) ∧ Below X.heap.size X w') from impl_SickValue_any b.less A0 n0 c0 B0 m0 d0 X hT hc0 hf64 hS))
      rw [HLC.out] at HLS
      generalize b.less.v = lv9 at hl1 HLS
      change Hid _ at HLS
      have k0_a := HKa.out.cell 0; have k1_a := HKa.out.cell 1
      change _ = some (Value.int .i64 b.f) at k0_a; change _ = some (Value.slice A0 n0 c0) at k1_a
      have k0_s := HKs.out.cell 0; have k1_s := HKs.out.cell 1
      change _ = some (Value.int .i64 b.g) at k0_s; change _ = some (Value.slice B0 m0 d0) at k1_s
      go_wp2_with fail
      refine (HLS.out _ HT0.out HS0.out).mono ?_
      rintro e u15 ⟨rfl, hb⟩
      clear k0_a k1_a k0_s k1_s
      replace HX := Lib.hid (HX.out.past hb)
      replace HT0 := Lib.hid (HT0.out.past hb)
      replace HS0 := Lib.hid (HS0.out.past hb)
      replace HKa := Lib.hid (HKa.out.below' hb)
      replace HKs := Lib.hid (HKs.out.below' hb)
      replace HT1 := Lib.hid (HT1.out.past hb)
      replace HKb := Lib.hid (HKb.out.below' hb)
      replace HT2 := Lib.hid (HT2.out.past hb)
      replace HKd := Lib.hid (HKd.out.below' hb)
      replace HT3 := Lib.hid (HT3.out.past hb)
      replace HKe := Lib.hid (HKe.out.below' hb)
      replace HB := Lib.hid (below_all HB.out hb)
      clear hb
      go_wp2
      all_goals (go_ret; exact ⟨by first | rfl | simp [hl1, hl2], HB.out⟩)
    · skip
      have k0_s := HKs.out.cell 0; have k1_s := HKs.out.cell 1
      change _ = some (Value.int .i64 b.g) at k0_s; change _ = some (Value.slice B0 m0 d0) at k1_s
      have k0_b := HKb.out.cell 0; have k1_b := HKb.out.cell 1
      change _ = some (Value.int .i64 b.g) at k0_b; change _ = some (Value.slice A1 m0 c1) at k1_b
      have k0_d := HKd.out.cell 0; have k1_d := HKd.out.cell 1
      change _ = some (Value.int .i64 f2) at k0_d; change _ = some (Value.slice A2 n2 c2) at k1_d
      have k0_e := HKe.out.cell 0; have k1_e := HKe.out.cell 1
      change _ = some (Value.int .i64 f2) at k0_e; change _ = some (Value.slice A3 n2 c3) at k1_e
      go_wp2_with fail
      refine (spec_SickText_any b.g B0 m0 d0 b.ws _ HS0.out hg64).mono ?_
      rw [HST.out]
      rintro e u11 ⟨rfl, hb⟩
      clear k0_s k1_s k0_b k1_b k0_d k1_d k0_e k1_e
      replace HX := Lib.hid (HX.out.past hb)
      replace HT0 := Lib.hid (HT0.out.past hb)
      replace HS0 := Lib.hid (HS0.out.past hb)
      replace HKa := Lib.hid (HKa.out.below' hb)
      replace HKs := Lib.hid (HKs.out.below' hb)
      replace HT1 := Lib.hid (HT1.out.past hb)
      replace HKb := Lib.hid (HKb.out.below' hb)
      replace HT2 := Lib.hid (HT2.out.past hb)
      replace HKd := Lib.hid (HKd.out.below' hb)
      replace HT3 := Lib.hid (HT3.out.past hb)
      replace HKe := Lib.hid (HKe.out.below' hb)
      replace HB := Lib.hid (below_all HB.out hb)
      clear hb
      have k0_s := HKs.out.cell 0; have k1_s := HKs.out.cell 1
      change _ = some (Value.int .i64 b.g) at k0_s; change _ = some (Value.slice B0 m0 d0) at k1_s
      have k0_b := HKb.out.cell 0; have k1_b := HKb.out.cell 1
      change _ = some (Value.int .i64 b.g) at k0_b; change _ = some (Value.slice A1 m0 c1) at k1_b
      have k0_d := HKd.out.cell 0; have k1_d := HKd.out.cell 1
      change _ = some (Value.int .i64 f2) at k0_d; change _ = some (Value.slice A2 n2 c2) at k1_d
      have k0_e := HKe.out.cell 0; have k1_e := HKe.out.cell 1
      change _ = some (Value.int .i64 f2) at k0_e; change _ = some (Value.slice A3 n2 c3) at k1_e
      go_wp2_with fail
      refine (likeSicks9_any b.g A1 m0 c1 B0 d0 b.ws _ HS0.out.len (by omega) HT1.out.rd HS0.out.rd).mono ?_
      rintro e u12 ⟨rfl, hb⟩
      clear k0_s k1_s k0_b k1_b k0_d k1_d k0_e k1_e
      replace HX := Lib.hid (HX.out.past hb)
      replace HT0 := Lib.hid (HT0.out.past hb)
      replace HS0 := Lib.hid (HS0.out.past hb)
      replace HKa := Lib.hid (HKa.out.below' hb)
      replace HKs := Lib.hid (HKs.out.below' hb)
      replace HT1 := Lib.hid (HT1.out.past hb)
      replace HKb := Lib.hid (HKb.out.below' hb)
      replace HT2 := Lib.hid (HT2.out.past hb)
      replace HKd := Lib.hid (HKd.out.below' hb)
      replace HT3 := Lib.hid (HT3.out.past hb)
      replace HKe := Lib.hid (HKe.out.below' hb)
      replace HB := Lib.hid (below_all HB.out hb)
      clear hb
      have k0_s := HKs.out.cell 0; have k1_s := HKs.out.cell 1
      change _ = some (Value.int .i64 b.g) at k0_s; change _ = some (Value.slice B0 m0 d0) at k1_s
      have k0_b := HKb.out.cell 0; have k1_b := HKb.out.cell 1
      change _ = some (Value.int .i64 b.g) at k0_b; change _ = some (Value.slice A1 m0 c1) at k1_b
      have k0_d := HKd.out.cell 0; have k1_d := HKd.out.cell 1
      change _ = some (Value.int .i64 f2) at k0_d; change _ = some (Value.slice A2 n2 c2) at k1_d
      have k0_e := HKe.out.cell 0; have k1_e := HKe.out.cell 1
      change _ = some (Value.int .i64 f2) at k0_e; change _ = some (Value.slice A3 n2 c3) at k1_e
      go_wp2_with fail
      refine (likeSicks9_any f2 A2 n2 c2 A3 c3 xs2 _ HT2.out.len HT2.out.small HT2.out.rd HT3.out.rd).mono ?_
      rintro e u13 ⟨rfl, hb⟩
      clear k0_s k1_s k0_b k1_b k0_d k1_d k0_e k1_e
      replace HX := Lib.hid (HX.out.past hb)
      replace HT0 := Lib.hid (HT0.out.past hb)
      replace HS0 := Lib.hid (HS0.out.past hb)
      replace HKa := Lib.hid (HKa.out.below' hb)
      replace HKs := Lib.hid (HKs.out.below' hb)
      replace HT1 := Lib.hid (HT1.out.past hb)
      replace HKb := Lib.hid (HKb.out.below' hb)
      replace HT2 := Lib.hid (HT2.out.past hb)
      replace HKd := Lib.hid (HKd.out.below' hb)
      replace HT3 := Lib.hid (HT3.out.past hb)
      replace HKe := Lib.hid (HKe.out.below' hb)
      replace HB := Lib.hid (below_all HB.out hb)
      clear hb
      have k0_s := HKs.out.cell 0; have k1_s := HKs.out.cell 1
      change _ = some (Value.int .i64 b.g) at k0_s; change _ = some (Value.slice B0 m0 d0) at k1_s
      have k0_b := HKb.out.cell 0; have k1_b := HKb.out.cell 1
      change _ = some (Value.int .i64 b.g) at k0_b; change _ = some (Value.slice A1 m0 c1) at k1_b
      have k0_d := HKd.out.cell 0; have k1_d := HKd.out.cell 1
      change _ = some (Value.int .i64 f2) at k0_d; change _ = some (Value.slice A2 n2 c2) at k1_d
      have k0_e := HKe.out.cell 0; have k1_e := HKe.out.cell 1
      change _ = some (Value.int .i64 f2) at k0_e; change _ = some (Value.slice A3 n2 c3) at k1_e
      go_wp2_with fail
      refine (impl_SickText_any f2 A2 n2 c2 xs2 _ HT2.out HF2.out (HEnv.out.past HB.out).tab).mono ?_
      rw [HTX.out (by simp)]
      rintro e u14 ⟨rfl, hb⟩
      clear k0_s k1_s k0_b k1_b k0_d k1_d k0_e k1_e
      replace HX := Lib.hid (HX.out.past hb)
      replace HT0 := Lib.hid (HT0.out.past hb)
      replace HS0 := Lib.hid (HS0.out.past hb)
      replace HKa := Lib.hid (HKa.out.below' hb)
      replace HKs := Lib.hid (HKs.out.below' hb)
      replace HT1 := Lib.hid (HT1.out.past hb)
      replace HKb := Lib.hid (HKb.out.below' hb)
      replace HT2 := Lib.hid (HT2.out.past hb)
      replace HKd := Lib.hid (HKd.out.below' hb)
      replace HT3 := Lib.hid (HT3.out.past hb)
      replace HKe := Lib.hid (HKe.out.below' hb)
      replace HB := Lib.hid (below_all HB.out hb)
      clear hb
      have k0_s := HKs.out.cell 0; have k1_s := HKs.out.cell 1
      change _ = some (Value.int .i64 b.g) at k0_s; change _ = some (Value.slice B0 m0 d0) at k1_s
      have k0_b := HKb.out.cell 0; have k1_b := HKb.out.cell 1
      change _ = some (Value.int .i64 b.g) at k0_b; change _ = some (Value.slice A1 m0 c1) at k1_b
      have k0_d := HKd.out.cell 0; have k1_d := HKd.out.cell 1
      change _ = some (Value.int .i64 f2) at k0_d; change _ = some (Value.slice A2 n2 c2) at k1_d
      have k0_e := HKe.out.cell 0; have k1_e := HKe.out.cell 1
      change _ = some (Value.int .i64 f2) at k0_e; change _ = some (Value.slice A3 n2 c3) at k1_e
      go_wp2_with fail
      refine (impl_IsSickTable_any b.g B0 m0 d0 b.ws _ HS0.out).mono ?_
      rw [htb]
      rintro e u15 ⟨rfl, hb⟩
      clear k0_s k1_s k0_b k1_b k0_d k1_d k0_e k1_e
      replace HX := Lib.hid (HX.out.past hb)
      replace HT0 := Lib.hid (HT0.out.past hb)
      replace HS0 := Lib.hid (HS0.out.past hb)
      replace HKa := Lib.hid (HKa.out.below' hb)
      replace HKs := Lib.hid (HKs.out.below' hb)
      replace HT1 := Lib.hid (HT1.out.past hb)
      replace HKb := Lib.hid (HKb.out.below' hb)
      replace HT2 := Lib.hid (HT2.out.past hb)
      replace HKd := Lib.hid (HKd.out.below' hb)
      replace HT3 := Lib.hid (HT3.out.past hb)
      replace HKe := Lib.hid (HKe.out.below' hb)
      replace HB := Lib.hid (below_all HB.out hb)
      clear hb
      by_cases hbad : b.code = 0
      rotate_left
      · have hbb : (b.code == 0) = false := by simpa using hbad
        go_wp2
        go_ret
        exact ⟨rfl, HB.out⟩
      by_cases hone : b.n = 1
      · have hbb : (b.code == 0) = true := by simpa using hbad
        have hob : (b.n == 1) = true := by simpa using hone
        clear hbad hone
        go_wp2
        all_goals (go_ret; exact ⟨rfl, HB.out⟩)
      obtain ⟨hlc, hl1, hl2⟩ := less_facts hbad hone
      have HLC := Lib.hid hlc
      have hbb : (b.code == 0) = true := by simpa using hbad
      have hob : (b.n == 1) = false := by simpa using hone
      clear htb hlc hbad hone
      have HLS := Lib.hid (fun X (hT : LiesT X A0 n0 b.xs) (hS : LiesT X B0 m0 b.ws) => (show Calls Tryz.prog 7 #[.agg #[.int .i64 b.f, .slice A0 n0 c0], .agg #[.int .i64 b.g, .slice B0 m0 d0], .int .i64 b.rate, .int .i64 b.age, .int .i64 (b.n - 1), .int .i64 b.pay] X (fun e w' => e = .returned (.tuple #[.int .i64 b.less.v, .int .i64 b.less.code]) ∧ Below X.heap.size X w') from impl_SickValue_any b.less A0 n0 c0 B0 m0 d0 X hT hc0 hf64 hS))
      rw [HLC.out] at HLS
      generalize b.less.v = lv9 at hl1 HLS
      change Hid _ at HLS
      have k0_a := HKa.out.cell 0; have k1_a := HKa.out.cell 1
      change _ = some (Value.int .i64 b.f) at k0_a; change _ = some (Value.slice A0 n0 c0) at k1_a
      have k0_s := HKs.out.cell 0; have k1_s := HKs.out.cell 1
      change _ = some (Value.int .i64 b.g) at k0_s; change _ = some (Value.slice B0 m0 d0) at k1_s
      go_wp2_with fail
      refine (HLS.out _ HT0.out HS0.out).mono ?_
      rintro e u16 ⟨rfl, hb⟩
      clear k0_a k1_a k0_s k1_s
      replace HX := Lib.hid (HX.out.past hb)
      replace HT0 := Lib.hid (HT0.out.past hb)
      replace HS0 := Lib.hid (HS0.out.past hb)
      replace HKa := Lib.hid (HKa.out.below' hb)
      replace HKs := Lib.hid (HKs.out.below' hb)
      replace HT1 := Lib.hid (HT1.out.past hb)
      replace HKb := Lib.hid (HKb.out.below' hb)
      replace HT2 := Lib.hid (HT2.out.past hb)
      replace HKd := Lib.hid (HKd.out.below' hb)
      replace HT3 := Lib.hid (HT3.out.past hb)
      replace HKe := Lib.hid (HKe.out.below' hb)
      replace HB := Lib.hid (below_all HB.out hb)
      clear hb
      go_wp2
      all_goals (go_ret; exact ⟨by first | rfl | simp [hl1, hl2], HB.out⟩)

/-- the value that a datum of a table lays -/
def valAt : DataW Unit → Value
  | .lit (.int k z) => .int k z
  | .lit (.string b) => .string ⟨b.toArray⟩
  | _ => .nilIface
def valsRow : DataW Unit → List Value
  | .agg ds => ds.map valAt
  | d => [valAt d]
def valsAll : DataW Unit → List Value
  | .agg ds => (ds.map valsRow).flatten
  | _ => []
def layTab (vs : List Value) : Obj → Obj
  | .cells _ t frozen => .cells vs.toArray t frozen
  | o => o
def layErr (g : Nat) : Obj → Obj
  | .cells _ t frozen => .cells #[.iface 190 (.pointer (some ⟨g, 0, none⟩))] t frozen
  | o => o
def rangeS : ByteArray := ⟨#[118, 97, 108, 117, 101, 32, 111, 117, 116, 32, 111, 102, 32, 114, 97, 110, 103, 101]⟩
def synS : ByteArray := ⟨#[105, 110, 118, 97, 108, 105, 100, 32, 115, 121, 110, 116, 97, 120]⟩
noncomputable def low : Nat := (World.holding Tryz.prog default ⟨#[], #[], []⟩).heap.size
noncomputable def laidWorld (os : Os) : World :=
  { World.holding Tryz.prog os ⟨#[.cells #[.string rangeS] 192, .cells #[.string synS] 192], #[], []⟩ with heap := ((((((((World.holding Tryz.prog os ⟨#[.cells #[.string rangeS] 192, .cells #[.string synS] 192], #[], []⟩).heap.modify 8 (layTab (valsAll Rows.laid_math_bits_deBruijn32tab))).modify 9 (layTab (valsAll Rows.laid_math_bits_deBruijn64tab))).modify 4 (layTab (valsAll Rows.laid_internal_strconv_uint64pow10))).modify 7 (layTab (valsAll Rows.laid_unicode_utf8_acceptRanges))).modify 1 (layErr low)).modify 0 (layErr (low + 1))).modify 6 (layTab (valsAll Rows.laid_unicode_utf8_first))) }
theorem laid_met (os : Os) : laidMet Tryz.prog Rows.fnSicknessRow.laid ((laidWorld os).forCall (fun _ _ => 0) ⟨#[], #[.slice none 0 0], []⟩).memory :=
  laidMet_of_run' 8 (by kernel_rfl) (by kernel_rfl)
theorem reads (os : Os) {H : Type} (enc : TypeId × Value → H) : ∃ places, DataW.whole enc Tryz.prog ((laidWorld os).forCall (fun _ _ => 0) ⟨#[], #[.slice none 0 0], []⟩).memory Tryz.f3.params.toList Rows.fnSicknessSpec.vars false #[.slice none 0 0].toList 8 = some ([.nil], [], places) :=
  ⟨[], by kernel_rfl⟩

set_option maxRecDepth 100000 in
theorem lifted (os : Os) (started : os.Started) (H : Type) (enc : TypeId × Value → H) (F : Stop.Interp) :
    ReturnsInHanded {} Tryz.checked os 3 .any ((OpenSpec.ofChange Rows.fnSicknessSpec).preRow enc Tryz.prog Tryz.f3 Rows.fnSicknessRow.domain false Rows.fnSicknessRow.laid) (((OpenSpec.ofChange Rows.fnSicknessSpec).at F).post enc Tryz.prog Tryz.f3 false true false false) := by
  obtain ⟨places, hx⟩ := reads os enc
  refine law_liftedDS os started H enc F 4 (by kernel_rfl) Tryz.func3
    (witness_row_at (enc := enc) (C := Tryz.checked) false (laidWorld os) #[.slice none 0 0] rfl (by kernel_rfl) (by kernel_rfl) (by kernel_rfl)
      (OpenSpec.preRow_of_cond 8 hx (by kernel_rfl) (fun k hk => by cases hk) (by kernel_rfl) (laid_met os))) (by kernel_rfl) rfl Tryz.underlying4
    (by rw [Tryz.params3]; simp only [List.forall_mem_cons]; exact ⟨⟨by kernel_rfl, of_decide_eq_true (by kernel_rfl)⟩, by simp⟩) (fun ds gs hl hg => by
      match ds, hl, gs, hg with
      | [d0], _, [], _ => rfl) ?_
  intro W base args ds p hval hA hL0 hsh
  have hL : laidMet Tryz.prog [("math/bits.deBruijn32tab", Rows.laid_math_bits_deBruijn32tab), ("math/bits.deBruijn64tab", Rows.laid_math_bits_deBruijn64tab), ("internal/strconv.uint64pow10", Rows.laid_internal_strconv_uint64pow10), ("unicode/utf8.acceptRanges", Rows.laid_unicode_utf8_acceptRanges), ("strconv.ErrRange", Rows.laid_strconv_ErrRange), ("strconv.ErrSyntax", Rows.laid_strconv_ErrSyntax), ("unicode/utf8.first", Rows.laid_unicode_utf8_first)] W := hL0
  have h2 := hL.tail.tail
  have h4 := h2.tail.tail
  have h5 := h4.tail
  obtain ⟨_, hv2, _⟩ := h2
  have hE : Env W := ⟨tab_of_vars hv2, syn_of h5, rng_of h4, mx_of hsh⟩
  rw [Tryz.params3] at hA hval
  obtain ⟨v0, vs0, d0, ds0, p0, q0, hargs, rfl, rfl, h0, r0⟩ := trodAll_cons hA
  obtain ⟨rfl, rfl, rfl⟩ := trodAll_nil r0
  obtain rfl : args = #[v0] := by cases args; simp_all
  obtain ⟨A0, n0, c0, rfl⟩ := okWide_slice Tryz.underlying22 (hval 0 22 v0 rfl rfl)
  obtain ⟨fu0, ho0⟩ := h0
  obtain ⟨bs, hbl, hby, hRd, hnm⟩ := open_code Tryz.underlying22 Tryz.underlying5 (by kernel_rfl) ho0
  exact walk ⟨A0, n0, c0, bs⟩ hbl hby hnm W hRd hE
theorem said : Rows.FnSicknessSaid :=
  OpenClaim.holds_of_cond 3 Tryz.f3 rfl rfl rfl rfl rfl rfl rfl ⟨rfl, rfl, rfl, rfl, rfl⟩ rfl rfl rfl rfl rfl (by kernel_rfl) Tryz.func3 (by kernel_rfl)
    (of_decide_eq_true (by kernel_rfl)) (by unfold Func.isWrapper; first | (rw [if_pos (by decide +kernel)]; kernel_rfl) | (rw [if_neg (by decide +kernel)]; exact ⟨rfl, rfl⟩))
    (fun os started H enc _ F => by rw [OpenClaim.pre_eq_preRow]; exact lifted os started H enc F)
theorem plain (f : FuncId) (fn : Func) (hf : Tryz.pinned.checked.prog.funcNamed "loop.example/g01025/laws.FnSickness" = some f) (hfn : Tryz.pinned.checked.prog.funcs[f]? = some fn) :
    true = Tryz.pinned.checked.prog.looks [] ∧ ∀ (j : Nat) t, fn.params[j]? = some t → Tryz.pinned.checked.prog.wantsStandIn t = false := by
  obtain rfl : f = 3 := Option.some.inj ((show Tryz.prog.funcNamed "loop.example/g01025/laws.FnSickness" = some 3 by kernel_rfl).symm.trans hf) |>.symm
  obtain rfl : fn = Tryz.f3 := (Option.some.inj (Tryz.func3.symm.trans hfn)).symm
  refine ⟨by kernel_rfl, fun j t ht => ?_⟩
  rw [Tryz.params3] at ht
  have hm : t ∈ [22] := by simpa using Array.mem_of_getElem? ht
  exact (show ∀ t ∈ [22], Tryz.prog.wantsStandIn t = false by simp only [List.forall_mem_cons]; exact ⟨by kernel_rfl, by simp⟩) t hm
theorem proved : Rows.FnSicknessCardSaid :=
  Claim7.holds_tied_plain_at .later [] _ _ _ _ said (fun _ h => by cases h) (by kernel_rfl) (fun _ h => by cases h) fnSickness_row_tie rfl ⟨rfl, rfl⟩ (by kernel_rfl) rfl plain (by kernel_rfl)
end fnSickness
end Go.Proofs.YtkdfdbcpbgganaaGreatDoor
