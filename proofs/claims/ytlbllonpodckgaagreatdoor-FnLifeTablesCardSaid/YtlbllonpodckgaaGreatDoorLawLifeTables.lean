/- The law on life tables: lives and deaths add up, and a life table is found from its text. No condition but the laid tables. -/
import Derived.Test.YtlbllonpodckgaaGreatDoorTabL
import Derived.Test.YtlbllonpodckgaaGreatDoorDrawLaw
import Derived.Test.YtlbllonpodckgaaGreatDoorHeld
import Derived.Test.YtlbllonpodckgaaGreatDoorDoorE
import Derived.Test.YtlbllonpodckgaaGreatDoorLaw
import Derived.Test.YtlbllonpodckgaaGreatDoorBase2
namespace Go.Proofs.YtlbllonpodckgaaGreatDoor
open Go.ChangeShapes Go.WideShapes Go.ChangeAt Go.RowKit Go.Deep
namespace fnLifeTables
set_option maxRecDepth 100000 in
set_option maxHeartbeats 8000000 in
theorem walk (K : Code) (hlen : K.bs.length = K.n) (hbyte : ∀ x ∈ K.bs, 0 ≤ x ∧ x ≤ 255) (hmax : K.n ≤ 9223372036854775807) (w : World) (hX : Rd w w.heap.size K.A 1 (byteRows K.bs)) (hEnv : Env w) :
    Calls Tryz.prog 7 #[.slice K.A K.n K.c] w fun e w' => e = .returned (.bool true) ∧ Below w.heap.size w w' := by
  by_cases hbig : 4096 < K.n
  · have hd : decide (4096 < K.n) = true := by simpa using hbig
    clear hX hbyte hlen hEnv
    go_enter Tryz.func7, Tryz.ntmps7
    go_wp2_with (go_at_call 13; refine (laws_big_any K.A K.n K.c _ (by omega)).mono ?_; rw [hd]; rintro e w' ⟨rfl, rfl⟩)
    go_ret
    exact ⟨rfl, Below.refl _ _⟩
  have hd : decide (4096 < K.n) = false := by simpa using hbig
  have hK : K.Ok := ⟨hlen, by omega, hbyte⟩
  have HX := Lib.hid hX
  have HB := Lib.hid (Below.refl w.heap.size w)
  have HEnv := Lib.hid hEnv
  clear hX hbyte hlen hbig hEnv
  go_enter Tryz.func7, Tryz.ntmps7
  go_wp2_with (go_at_call 13; refine (laws_big_any K.A K.n K.c _ (by omega)).mono ?_; rw [hd]; rintro e w' ⟨rfl, rfl⟩)
  refine (spec_DrawDeathsAt_any K hK _ HX.out).mono ?_
  rintro e w1 ⟨f0, A0, n0, c0, age, rfl, hE, hn0, hf0, ha0, hb⟩
  obtain ⟨xs0, hL0, hc0⟩ := ints_lies hE (by omega)
  have HT0 := Lib.hid hL0
  have hf64 : In64 f0 := by unfold In64; omega
  clear hE hL0
  replace HX := Lib.hid (HX.out.past hb)
  replace HB := Lib.hid (below_all HB.out hb)
  clear hb
  have hb : Below w1.heap.size w1 (w1.alloc (.cells #[.int .i64 f0, .slice A0 n0 c0] 40)) := (Below.refl _ _).alloc (Nat.le_refl _) _
  have HKa := Lib.hid (Blk.new w1 40 #[.int .i64 f0, .slice A0 n0 c0])
  replace HX := Lib.hid (HX.out.past hb)
  replace HT0 := Lib.hid (HT0.out.past hb)
  replace HB := Lib.hid (below_all HB.out hb)
  clear hb
  go_wp2_with fail
  generalize w1.alloc (.cells #[.int .i64 f0, .slice A0 n0 c0] 40) = va at HB HX HT0 HKa ⊢
  generalize w1.heap.size = ga at HKa ⊢
  have k0_a := HKa.out.cell 0; have k1_a := HKa.out.cell 1
  change _ = some (Value.int .i64 f0) at k0_a; change _ = some (Value.slice A0 n0 c0) at k1_a
  go_wp2_with fail
  refine (impl_DeathsAt_any f0 A0 n0 c0 xs0 age _ HT0.out hc0 hf64).mono ?_
  rintro e w2 ⟨rfl, hb⟩
  clear k0_a k1_a
  replace HX := Lib.hid (HX.out.past hb)
  replace HT0 := Lib.hid (HT0.out.past hb)
  replace HKa := Lib.hid (HKa.out.below' hb)
  replace HB := Lib.hid (below_all HB.out hb)
  clear hb
  have k0_a := HKa.out.cell 0; have k1_a := HKa.out.cell 1
  change _ = some (Value.int .i64 f0) at k0_a; change _ = some (Value.slice A0 n0 c0) at k1_a
  go_wp2_with fail
  refine (spec_DeathsAt_any f0 A0 n0 c0 xs0 age _ HT0.out hc0 hf64).mono ?_
  rintro e w3 ⟨rfl, hb⟩
  clear k0_a k1_a
  replace HX := Lib.hid (HX.out.past hb)
  replace HT0 := Lib.hid (HT0.out.past hb)
  replace HKa := Lib.hid (HKa.out.below' hb)
  replace HB := Lib.hid (below_all HB.out hb)
  clear hb
  have k0_a := HKa.out.cell 0; have k1_a := HKa.out.cell 1
  change _ = some (Value.int .i64 f0) at k0_a; change _ = some (Value.slice A0 n0 c0) at k1_a
  go_wp2_with fail
  refine (impl_LivesAt_any f0 A0 n0 c0 xs0 age _ HT0.out hc0 hf64).mono ?_
  rintro e w4 ⟨rfl, hb⟩
  clear k0_a k1_a
  replace HX := Lib.hid (HX.out.past hb)
  replace HT0 := Lib.hid (HT0.out.past hb)
  replace HKa := Lib.hid (HKa.out.below' hb)
  replace HB := Lib.hid (below_all HB.out hb)
  clear hb
  have k0_a := HKa.out.cell 0; have k1_a := HKa.out.cell 1
  change _ = some (Value.int .i64 f0) at k0_a; change _ = some (Value.slice A0 n0 c0) at k1_a
  go_wp2_with fail
  refine (spec_LivesAt_any f0 A0 n0 c0 xs0 age _ HT0.out hc0 hf64).mono ?_
  rintro e w5 ⟨rfl, hb⟩
  clear k0_a k1_a
  replace HX := Lib.hid (HX.out.past hb)
  replace HT0 := Lib.hid (HT0.out.past hb)
  replace HKa := Lib.hid (HKa.out.below' hb)
  replace HB := Lib.hid (below_all HB.out hb)
  clear hb
  have k0_a := HKa.out.cell 0; have k1_a := HKa.out.cell 1
  change _ = some (Value.int .i64 f0) at k0_a; change _ = some (Value.slice A0 n0 c0) at k1_a
  go_wp2_with fail
  refine (impl_TableText_any f0 A0 n0 c0 xs0 _ HT0.out hc0 hf64 (HEnv.out.past HB.out).tab).mono ?_
  rintro e w6 ⟨rfl, hb⟩
  clear k0_a k1_a
  replace HX := Lib.hid (HX.out.past hb)
  replace HT0 := Lib.hid (HT0.out.past hb)
  replace HKa := Lib.hid (HKa.out.below' hb)
  replace HB := Lib.hid (below_all HB.out hb)
  clear hb
  have hts := textP_size f0 xs0
  obtain ⟨st, hst⟩ : ∃ st, S (textP f0 xs0) = st := ⟨_, rfl⟩
  rw [hst] at hts ⊢
  have HST := Lib.hid hst
  clear hst
  go_wp2_with fail
  refine (impl_ReadTable_any st (by omega) _ (HEnv.out.past HB.out)).mono ?_
  rintro e w7 ⟨f1, A1, n1, c1, b1, xs1, rfl, hL, hc1, hf1, hy1, hz1, hu1, hb⟩
  have HT1 := Lib.hid hL; have HF1 := Lib.hid hf1; have HY1 := Lib.hid hy1; have HZ1 := Lib.hid hz1; have HU1 := Lib.hid hu1
  clear hL hf1 hy1 hz1 hu1
  replace HX := Lib.hid (HX.out.past hb)
  replace HT0 := Lib.hid (HT0.out.past hb)
  replace HKa := Lib.hid (HKa.out.below' hb)
  replace HB := Lib.hid (below_all HB.out hb)
  clear hb
  have hb : Below w7.heap.size w7 (w7.alloc (.cells #[.int .i64 f1, .slice A1 n1 c1] 40)) := (Below.refl _ _).alloc (Nat.le_refl _) _
  have HKb := Lib.hid (Blk.new w7 40 #[.int .i64 f1, .slice A1 n1 c1])
  replace HX := Lib.hid (HX.out.past hb)
  replace HT0 := Lib.hid (HT0.out.past hb)
  replace HKa := Lib.hid (HKa.out.below' hb)
  replace HT1 := Lib.hid (HT1.out.past hb)
  replace HB := Lib.hid (below_all HB.out hb)
  clear hb
  go_wp2_with fail
  generalize w7.alloc (.cells #[.int .i64 f1, .slice A1 n1 c1] 40) = vb at HB HX HT0 HKa HT1 HKb ⊢
  generalize w7.heap.size = gb at HKb ⊢
  go_wp2_with fail
  refine (spec_DrawReadTable_any K hK _ HX.out).mono ?_
  rintro e w8 ⟨r, rfl, hr, hb⟩
  replace HX := Lib.hid (HX.out.past hb)
  replace HT0 := Lib.hid (HT0.out.past hb)
  replace HKa := Lib.hid (HKa.out.below' hb)
  replace HT1 := Lib.hid (HT1.out.past hb)
  replace HKb := Lib.hid (HKb.out.below' hb)
  replace HB := Lib.hid (below_all HB.out hb)
  clear hb
  go_wp2_with fail
  refine (impl_ReadTable_any r (by omega) _ (HEnv.out.past HB.out)).mono ?_
  rintro e w9 ⟨f2, A2, n2, c2, b2, xs2, rfl, hL, hc2, hf2, hy2, hz2, hu2, hb⟩
  have HT2 := Lib.hid hL; have HF2 := Lib.hid hf2; have HY2 := Lib.hid hy2; have HZ2 := Lib.hid hz2; have HU2 := Lib.hid hu2
  clear hL hf2 hy2 hz2 hu2
  replace HX := Lib.hid (HX.out.past hb)
  replace HT0 := Lib.hid (HT0.out.past hb)
  replace HKa := Lib.hid (HKa.out.below' hb)
  replace HT1 := Lib.hid (HT1.out.past hb)
  replace HKb := Lib.hid (HKb.out.below' hb)
  replace HB := Lib.hid (below_all HB.out hb)
  clear hb
  have hb : Below w9.heap.size w9 (w9.alloc (.cells #[.int .i64 f2, .slice A2 n2 c2] 40)) := (Below.refl _ _).alloc (Nat.le_refl _) _
  have HKd := Lib.hid (Blk.new w9 40 #[.int .i64 f2, .slice A2 n2 c2])
  replace HX := Lib.hid (HX.out.past hb)
  replace HT0 := Lib.hid (HT0.out.past hb)
  replace HKa := Lib.hid (HKa.out.below' hb)
  replace HT1 := Lib.hid (HT1.out.past hb)
  replace HKb := Lib.hid (HKb.out.below' hb)
  replace HT2 := Lib.hid (HT2.out.past hb)
  replace HB := Lib.hid (below_all HB.out hb)
  clear hb
  go_wp2_with fail
  generalize w9.alloc (.cells #[.int .i64 f2, .slice A2 n2 c2] 40) = vd at HB HX HT0 HKa HT1 HKb HT2 HKd ⊢
  generalize w9.heap.size = gd at HKd ⊢
  go_wp2_with fail
  refine (spec_ReadTable_any r (by omega) _).mono ?_
  rintro e w10 ⟨f3, A3, n3, c3, b3, xs3, rfl, hL, hc3, hf3, hy3, hz3, hu3, hb⟩
  have HT3 := Lib.hid hL; have HF3 := Lib.hid hf3; have HY3 := Lib.hid hy3; have HZ3 := Lib.hid hz3; have HU3 := Lib.hid hu3
  clear hL hf3 hy3 hz3 hu3
  replace HX := Lib.hid (HX.out.past hb)
  replace HT0 := Lib.hid (HT0.out.past hb)
  replace HKa := Lib.hid (HKa.out.below' hb)
  replace HT1 := Lib.hid (HT1.out.past hb)
  replace HKb := Lib.hid (HKb.out.below' hb)
  replace HT2 := Lib.hid (HT2.out.past hb)
  replace HKd := Lib.hid (HKd.out.below' hb)
  replace HB := Lib.hid (below_all HB.out hb)
  clear hb
  have hb : Below w10.heap.size w10 (w10.alloc (.cells #[.int .i64 f3, .slice A3 n3 c3] 40)) := (Below.refl _ _).alloc (Nat.le_refl _) _
  have HKe := Lib.hid (Blk.new w10 40 #[.int .i64 f3, .slice A3 n3 c3])
  replace HX := Lib.hid (HX.out.past hb)
  replace HT0 := Lib.hid (HT0.out.past hb)
  replace HKa := Lib.hid (HKa.out.below' hb)
  replace HT1 := Lib.hid (HT1.out.past hb)
  replace HKb := Lib.hid (HKb.out.below' hb)
  replace HT2 := Lib.hid (HT2.out.past hb)
  replace HKd := Lib.hid (HKd.out.below' hb)
  replace HT3 := Lib.hid (HT3.out.past hb)
  replace HB := Lib.hid (below_all HB.out hb)
  clear hb
  have hyz : f2 = f3 ∧ xs2 = xs3 ∧ b2 = b3 := by
    cases hb2 : b2
    · cases hb3 : b3
      · obtain ⟨h1, h2⟩ := HZ2.out hb2
        obtain ⟨h3, h4⟩ := HZ3.out hb3
        exact ⟨h1.trans h3.symm, h2.trans h4.symm, rfl⟩
      · obtain ⟨h1, h2⟩ := HY3.out hb3
        have := (HU2.out _ _ h1 h2).2.2
        rw [hb2] at this; cases this
    · obtain ⟨h1, h2⟩ := HY2.out hb2
      obtain ⟨h3, h4, h5⟩ := HU3.out _ _ h1 h2
      exact ⟨h3.symm, h4.symm, h5.symm⟩
  obtain ⟨rfl, rfl, rfl⟩ := hyz
  have hn23 : n2 = n3 := HT2.out.len.symm.trans HT3.out.len
  subst hn23
  have HTX := Lib.hid (fun (h : b2 = true) => (show S (textP f2 xs2) = r from by
    obtain ⟨h1, h2⟩ := HY2.out h
    rw [textP_yes h1, ← h2]
    exact S_of r))
  have hce : (livesP f0 xs0 age).2 = (deathsP f0 xs0 age).2 := codes_eq f0 age xs0
  cases htb : tableB f0 xs0
  · have HSE := Lib.hid (show st = S [] from by rw [← HST.out, textP_no htb])
    have hb1 : b1 = false := by
      cases hb : b1
      · rfl
      · have h1 := (HY1.out hb).2
        rw [HSE.out, S_list] at h1
        exact absurd h1.symm (numsL_ne _ _)
    subst hb1
    have hse : st.toList.isEmpty = true := by rw [HSE.out, ByteArray.toList_eq, S_list]; rfl
    cases b2
    · skip
      have k0_a := HKa.out.cell 0; have k1_a := HKa.out.cell 1
      change _ = some (Value.int .i64 f0) at k0_a; change _ = some (Value.slice A0 n0 c0) at k1_a
      have k0_b := HKb.out.cell 0; have k1_b := HKb.out.cell 1
      change _ = some (Value.int .i64 f1) at k0_b; change _ = some (Value.slice A1 n1 c1) at k1_b
      have k0_d := HKd.out.cell 0; have k1_d := HKd.out.cell 1
      change _ = some (Value.int .i64 f2) at k0_d; change _ = some (Value.slice A2 n2 c2) at k1_d
      have k0_e := HKe.out.cell 0; have k1_e := HKe.out.cell 1
      change _ = some (Value.int .i64 f2) at k0_e; change _ = some (Value.slice A3 n2 c3) at k1_e
      go_wp2_with fail
      refine (spec_TableText_any f0 A0 n0 c0 xs0 _ HT0.out hc0 hf64).mono ?_
      rw [HST.out]
      rintro e u11 ⟨rfl, hb⟩
      clear k0_a k1_a k0_b k1_b k0_d k1_d k0_e k1_e
      replace HX := Lib.hid (HX.out.past hb)
      replace HT0 := Lib.hid (HT0.out.past hb)
      replace HKa := Lib.hid (HKa.out.below' hb)
      replace HT1 := Lib.hid (HT1.out.past hb)
      replace HKb := Lib.hid (HKb.out.below' hb)
      replace HT2 := Lib.hid (HT2.out.past hb)
      replace HKd := Lib.hid (HKd.out.below' hb)
      replace HT3 := Lib.hid (HT3.out.past hb)
      replace HKe := Lib.hid (HKe.out.below' hb)
      replace HB := Lib.hid (below_all HB.out hb)
      clear hb
      have k0_a := HKa.out.cell 0; have k1_a := HKa.out.cell 1
      change _ = some (Value.int .i64 f0) at k0_a; change _ = some (Value.slice A0 n0 c0) at k1_a
      have k0_b := HKb.out.cell 0; have k1_b := HKb.out.cell 1
      change _ = some (Value.int .i64 f1) at k0_b; change _ = some (Value.slice A1 n1 c1) at k1_b
      have k0_d := HKd.out.cell 0; have k1_d := HKd.out.cell 1
      change _ = some (Value.int .i64 f2) at k0_d; change _ = some (Value.slice A2 n2 c2) at k1_d
      have k0_e := HKe.out.cell 0; have k1_e := HKe.out.cell 1
      change _ = some (Value.int .i64 f2) at k0_e; change _ = some (Value.slice A3 n2 c3) at k1_e
      go_wp2_with fail
      refine (likeTables9_any f2 A2 n2 c2 A3 c3 xs2 _ HT2.out.len HT2.out.small HT2.out.rd HT3.out.rd).mono ?_
      rintro e u12 ⟨rfl, hb⟩
      clear k0_a k1_a k0_b k1_b k0_d k1_d k0_e k1_e
      replace HX := Lib.hid (HX.out.past hb)
      replace HT0 := Lib.hid (HT0.out.past hb)
      replace HKa := Lib.hid (HKa.out.below' hb)
      replace HT1 := Lib.hid (HT1.out.past hb)
      replace HKb := Lib.hid (HKb.out.below' hb)
      replace HT2 := Lib.hid (HT2.out.past hb)
      replace HKd := Lib.hid (HKd.out.below' hb)
      replace HT3 := Lib.hid (HT3.out.past hb)
      replace HKe := Lib.hid (HKe.out.below' hb)
      replace HB := Lib.hid (below_all HB.out hb)
      clear hb
      have k0_a := HKa.out.cell 0; have k1_a := HKa.out.cell 1
      change _ = some (Value.int .i64 f0) at k0_a; change _ = some (Value.slice A0 n0 c0) at k1_a
      have k0_b := HKb.out.cell 0; have k1_b := HKb.out.cell 1
      change _ = some (Value.int .i64 f1) at k0_b; change _ = some (Value.slice A1 n1 c1) at k1_b
      have k0_d := HKd.out.cell 0; have k1_d := HKd.out.cell 1
      change _ = some (Value.int .i64 f2) at k0_d; change _ = some (Value.slice A2 n2 c2) at k1_d
      have k0_e := HKe.out.cell 0; have k1_e := HKe.out.cell 1
      change _ = some (Value.int .i64 f2) at k0_e; change _ = some (Value.slice A3 n2 c3) at k1_e
      go_wp2_with fail
      refine (impl_IsLifeTable_any f0 A0 n0 c0 xs0 _ HT0.out hc0 hf64).mono ?_
      rw [htb]
      rintro e u13 ⟨rfl, hb⟩
      clear k0_a k1_a k0_b k1_b k0_d k1_d k0_e k1_e
      replace HX := Lib.hid (HX.out.past hb)
      replace HT0 := Lib.hid (HT0.out.past hb)
      replace HKa := Lib.hid (HKa.out.below' hb)
      replace HT1 := Lib.hid (HT1.out.past hb)
      replace HKb := Lib.hid (HKb.out.below' hb)
      replace HT2 := Lib.hid (HT2.out.past hb)
      replace HKd := Lib.hid (HKd.out.below' hb)
      replace HT3 := Lib.hid (HT3.out.past hb)
      replace HKe := Lib.hid (HKe.out.below' hb)
      replace HB := Lib.hid (below_all HB.out hb)
      clear hb
      have hbad : ¬ (deathsP f0 xs0 age).2 = 0 := fun h => (by have h1 := (ageP_ok (deaths_good h).1).1; rw [htb] at h1; cases h1)
      have hbb : ((deathsP f0 xs0 age).2 == 0) = false := by simpa using hbad
      go_wp2
      go_ret
      exact ⟨rfl, HB.out⟩
    · skip
      have k0_a := HKa.out.cell 0; have k1_a := HKa.out.cell 1
      change _ = some (Value.int .i64 f0) at k0_a; change _ = some (Value.slice A0 n0 c0) at k1_a
      have k0_b := HKb.out.cell 0; have k1_b := HKb.out.cell 1
      change _ = some (Value.int .i64 f1) at k0_b; change _ = some (Value.slice A1 n1 c1) at k1_b
      have k0_d := HKd.out.cell 0; have k1_d := HKd.out.cell 1
      change _ = some (Value.int .i64 f2) at k0_d; change _ = some (Value.slice A2 n2 c2) at k1_d
      have k0_e := HKe.out.cell 0; have k1_e := HKe.out.cell 1
      change _ = some (Value.int .i64 f2) at k0_e; change _ = some (Value.slice A3 n2 c3) at k1_e
      go_wp2_with fail
      refine (spec_TableText_any f0 A0 n0 c0 xs0 _ HT0.out hc0 hf64).mono ?_
      rw [HST.out]
      rintro e u11 ⟨rfl, hb⟩
      clear k0_a k1_a k0_b k1_b k0_d k1_d k0_e k1_e
      replace HX := Lib.hid (HX.out.past hb)
      replace HT0 := Lib.hid (HT0.out.past hb)
      replace HKa := Lib.hid (HKa.out.below' hb)
      replace HT1 := Lib.hid (HT1.out.past hb)
      replace HKb := Lib.hid (HKb.out.below' hb)
      replace HT2 := Lib.hid (HT2.out.past hb)
      replace HKd := Lib.hid (HKd.out.below' hb)
      replace HT3 := Lib.hid (HT3.out.past hb)
      replace HKe := Lib.hid (HKe.out.below' hb)
      replace HB := Lib.hid (below_all HB.out hb)
      clear hb
      have k0_a := HKa.out.cell 0; have k1_a := HKa.out.cell 1
      change _ = some (Value.int .i64 f0) at k0_a; change _ = some (Value.slice A0 n0 c0) at k1_a
      have k0_b := HKb.out.cell 0; have k1_b := HKb.out.cell 1
      change _ = some (Value.int .i64 f1) at k0_b; change _ = some (Value.slice A1 n1 c1) at k1_b
      have k0_d := HKd.out.cell 0; have k1_d := HKd.out.cell 1
      change _ = some (Value.int .i64 f2) at k0_d; change _ = some (Value.slice A2 n2 c2) at k1_d
      have k0_e := HKe.out.cell 0; have k1_e := HKe.out.cell 1
      change _ = some (Value.int .i64 f2) at k0_e; change _ = some (Value.slice A3 n2 c3) at k1_e
      go_wp2_with fail
      refine (likeTables9_any f2 A2 n2 c2 A3 c3 xs2 _ HT2.out.len HT2.out.small HT2.out.rd HT3.out.rd).mono ?_
      rintro e u12 ⟨rfl, hb⟩
      clear k0_a k1_a k0_b k1_b k0_d k1_d k0_e k1_e
      replace HX := Lib.hid (HX.out.past hb)
      replace HT0 := Lib.hid (HT0.out.past hb)
      replace HKa := Lib.hid (HKa.out.below' hb)
      replace HT1 := Lib.hid (HT1.out.past hb)
      replace HKb := Lib.hid (HKb.out.below' hb)
      replace HT2 := Lib.hid (HT2.out.past hb)
      replace HKd := Lib.hid (HKd.out.below' hb)
      replace HT3 := Lib.hid (HT3.out.past hb)
      replace HKe := Lib.hid (HKe.out.below' hb)
      replace HB := Lib.hid (below_all HB.out hb)
      clear hb
      have k0_a := HKa.out.cell 0; have k1_a := HKa.out.cell 1
      change _ = some (Value.int .i64 f0) at k0_a; change _ = some (Value.slice A0 n0 c0) at k1_a
      have k0_b := HKb.out.cell 0; have k1_b := HKb.out.cell 1
      change _ = some (Value.int .i64 f1) at k0_b; change _ = some (Value.slice A1 n1 c1) at k1_b
      have k0_d := HKd.out.cell 0; have k1_d := HKd.out.cell 1
      change _ = some (Value.int .i64 f2) at k0_d; change _ = some (Value.slice A2 n2 c2) at k1_d
      have k0_e := HKe.out.cell 0; have k1_e := HKe.out.cell 1
      change _ = some (Value.int .i64 f2) at k0_e; change _ = some (Value.slice A3 n2 c3) at k1_e
      go_wp2_with fail
      refine (impl_TableText_any f2 A2 n2 c2 xs2 _ HT2.out hc2 HF2.out (HEnv.out.past HB.out).tab).mono ?_
      rw [HTX.out (by simp)]
      rintro e u13 ⟨rfl, hb⟩
      clear k0_a k1_a k0_b k1_b k0_d k1_d k0_e k1_e
      replace HX := Lib.hid (HX.out.past hb)
      replace HT0 := Lib.hid (HT0.out.past hb)
      replace HKa := Lib.hid (HKa.out.below' hb)
      replace HT1 := Lib.hid (HT1.out.past hb)
      replace HKb := Lib.hid (HKb.out.below' hb)
      replace HT2 := Lib.hid (HT2.out.past hb)
      replace HKd := Lib.hid (HKd.out.below' hb)
      replace HT3 := Lib.hid (HT3.out.past hb)
      replace HKe := Lib.hid (HKe.out.below' hb)
      replace HB := Lib.hid (below_all HB.out hb)
      clear hb
      have k0_a := HKa.out.cell 0; have k1_a := HKa.out.cell 1
      change _ = some (Value.int .i64 f0) at k0_a; change _ = some (Value.slice A0 n0 c0) at k1_a
      have k0_b := HKb.out.cell 0; have k1_b := HKb.out.cell 1
      change _ = some (Value.int .i64 f1) at k0_b; change _ = some (Value.slice A1 n1 c1) at k1_b
      have k0_d := HKd.out.cell 0; have k1_d := HKd.out.cell 1
      change _ = some (Value.int .i64 f2) at k0_d; change _ = some (Value.slice A2 n2 c2) at k1_d
      have k0_e := HKe.out.cell 0; have k1_e := HKe.out.cell 1
      change _ = some (Value.int .i64 f2) at k0_e; change _ = some (Value.slice A3 n2 c3) at k1_e
      go_wp2_with fail
      refine (impl_IsLifeTable_any f0 A0 n0 c0 xs0 _ HT0.out hc0 hf64).mono ?_
      rw [htb]
      rintro e u14 ⟨rfl, hb⟩
      clear k0_a k1_a k0_b k1_b k0_d k1_d k0_e k1_e
      replace HX := Lib.hid (HX.out.past hb)
      replace HT0 := Lib.hid (HT0.out.past hb)
      replace HKa := Lib.hid (HKa.out.below' hb)
      replace HT1 := Lib.hid (HT1.out.past hb)
      replace HKb := Lib.hid (HKb.out.below' hb)
      replace HT2 := Lib.hid (HT2.out.past hb)
      replace HKd := Lib.hid (HKd.out.below' hb)
      replace HT3 := Lib.hid (HT3.out.past hb)
      replace HKe := Lib.hid (HKe.out.below' hb)
      replace HB := Lib.hid (below_all HB.out hb)
      clear hb
      have hbad : ¬ (deathsP f0 xs0 age).2 = 0 := fun h => (by have h1 := (ageP_ok (deaths_good h).1).1; rw [htb] at h1; cases h1)
      have hbb : ((deathsP f0 xs0 age).2 == 0) = false := by simpa using hbad
      go_wp2
      go_ret
      exact ⟨rfl, HB.out⟩
  · have HSE := Lib.hid (show st = S (numsL (f0 :: xs0)) from by rw [← HST.out, textP_yes htb])
    have h10 : f1 = f0 ∧ xs1 = xs0 ∧ b1 = true := HU1.out _ _ htb (by rw [HSE.out, S_list])
    obtain ⟨hf10, hx10, hb10⟩ := h10
    have hn10 : n1 = n0 := by rw [← HT1.out.len, ← HT0.out.len, hx10]
    rw [hf10, hn10] at HKb
    rw [hf10, hn10, hb10]
    rw [hx10, hn10] at HT1
    have hse : st.toList.isEmpty = false := by rw [HSE.out]; exact isEmpty_S (numsL_ne _ _)
    clear hf10 hx10 hn10 hb10
    cases b2
    · skip
      have k0_a := HKa.out.cell 0; have k1_a := HKa.out.cell 1
      change _ = some (Value.int .i64 f0) at k0_a; change _ = some (Value.slice A0 n0 c0) at k1_a
      have k0_b := HKb.out.cell 0; have k1_b := HKb.out.cell 1
      change _ = some (Value.int .i64 f0) at k0_b; change _ = some (Value.slice A1 n0 c1) at k1_b
      have k0_d := HKd.out.cell 0; have k1_d := HKd.out.cell 1
      change _ = some (Value.int .i64 f2) at k0_d; change _ = some (Value.slice A2 n2 c2) at k1_d
      have k0_e := HKe.out.cell 0; have k1_e := HKe.out.cell 1
      change _ = some (Value.int .i64 f2) at k0_e; change _ = some (Value.slice A3 n2 c3) at k1_e
      go_wp2_with fail
      refine (spec_TableText_any f0 A0 n0 c0 xs0 _ HT0.out hc0 hf64).mono ?_
      rw [HST.out]
      rintro e u11 ⟨rfl, hb⟩
      clear k0_a k1_a k0_b k1_b k0_d k1_d k0_e k1_e
      replace HX := Lib.hid (HX.out.past hb)
      replace HT0 := Lib.hid (HT0.out.past hb)
      replace HKa := Lib.hid (HKa.out.below' hb)
      replace HT1 := Lib.hid (HT1.out.past hb)
      replace HKb := Lib.hid (HKb.out.below' hb)
      replace HT2 := Lib.hid (HT2.out.past hb)
      replace HKd := Lib.hid (HKd.out.below' hb)
      replace HT3 := Lib.hid (HT3.out.past hb)
      replace HKe := Lib.hid (HKe.out.below' hb)
      replace HB := Lib.hid (below_all HB.out hb)
      clear hb
      have k0_a := HKa.out.cell 0; have k1_a := HKa.out.cell 1
      change _ = some (Value.int .i64 f0) at k0_a; change _ = some (Value.slice A0 n0 c0) at k1_a
      have k0_b := HKb.out.cell 0; have k1_b := HKb.out.cell 1
      change _ = some (Value.int .i64 f0) at k0_b; change _ = some (Value.slice A1 n0 c1) at k1_b
      have k0_d := HKd.out.cell 0; have k1_d := HKd.out.cell 1
      change _ = some (Value.int .i64 f2) at k0_d; change _ = some (Value.slice A2 n2 c2) at k1_d
      have k0_e := HKe.out.cell 0; have k1_e := HKe.out.cell 1
      change _ = some (Value.int .i64 f2) at k0_e; change _ = some (Value.slice A3 n2 c3) at k1_e
      go_wp2_with fail
      refine (likeTables9_any f0 A1 n0 c1 A0 c0 xs0 _ HT0.out.len (by omega) HT1.out.rd HT0.out.rd).mono ?_
      rintro e u12 ⟨rfl, hb⟩
      clear k0_a k1_a k0_b k1_b k0_d k1_d k0_e k1_e
      replace HX := Lib.hid (HX.out.past hb)
      replace HT0 := Lib.hid (HT0.out.past hb)
      replace HKa := Lib.hid (HKa.out.below' hb)
      replace HT1 := Lib.hid (HT1.out.past hb)
      replace HKb := Lib.hid (HKb.out.below' hb)
      replace HT2 := Lib.hid (HT2.out.past hb)
      replace HKd := Lib.hid (HKd.out.below' hb)
      replace HT3 := Lib.hid (HT3.out.past hb)
      replace HKe := Lib.hid (HKe.out.below' hb)
      replace HB := Lib.hid (below_all HB.out hb)
      clear hb
      have k0_a := HKa.out.cell 0; have k1_a := HKa.out.cell 1
      change _ = some (Value.int .i64 f0) at k0_a; change _ = some (Value.slice A0 n0 c0) at k1_a
      have k0_b := HKb.out.cell 0; have k1_b := HKb.out.cell 1
      change _ = some (Value.int .i64 f0) at k0_b; change _ = some (Value.slice A1 n0 c1) at k1_b
      have k0_d := HKd.out.cell 0; have k1_d := HKd.out.cell 1
      change _ = some (Value.int .i64 f2) at k0_d; change _ = some (Value.slice A2 n2 c2) at k1_d
      have k0_e := HKe.out.cell 0; have k1_e := HKe.out.cell 1
      change _ = some (Value.int .i64 f2) at k0_e; change _ = some (Value.slice A3 n2 c3) at k1_e
      go_wp2_with fail
      refine (likeTables9_any f2 A2 n2 c2 A3 c3 xs2 _ HT2.out.len HT2.out.small HT2.out.rd HT3.out.rd).mono ?_
      rintro e u13 ⟨rfl, hb⟩
      clear k0_a k1_a k0_b k1_b k0_d k1_d k0_e k1_e
      replace HX := Lib.hid (HX.out.past hb)
      replace HT0 := Lib.hid (HT0.out.past hb)
      replace HKa := Lib.hid (HKa.out.below' hb)
      replace HT1 := Lib.hid (HT1.out.past hb)
      replace HKb := Lib.hid (HKb.out.below' hb)
      replace HT2 := Lib.hid (HT2.out.past hb)
      replace HKd := Lib.hid (HKd.out.below' hb)
      replace HT3 := Lib.hid (HT3.out.past hb)
      replace HKe := Lib.hid (HKe.out.below' hb)
      replace HB := Lib.hid (below_all HB.out hb)
      clear hb
      have k0_a := HKa.out.cell 0; have k1_a := HKa.out.cell 1
      change _ = some (Value.int .i64 f0) at k0_a; change _ = some (Value.slice A0 n0 c0) at k1_a
      have k0_b := HKb.out.cell 0; have k1_b := HKb.out.cell 1
      change _ = some (Value.int .i64 f0) at k0_b; change _ = some (Value.slice A1 n0 c1) at k1_b
      have k0_d := HKd.out.cell 0; have k1_d := HKd.out.cell 1
      change _ = some (Value.int .i64 f2) at k0_d; change _ = some (Value.slice A2 n2 c2) at k1_d
      have k0_e := HKe.out.cell 0; have k1_e := HKe.out.cell 1
      change _ = some (Value.int .i64 f2) at k0_e; change _ = some (Value.slice A3 n2 c3) at k1_e
      go_wp2_with fail
      refine (impl_IsLifeTable_any f0 A0 n0 c0 xs0 _ HT0.out hc0 hf64).mono ?_
      rw [htb]
      rintro e u14 ⟨rfl, hb⟩
      clear k0_a k1_a k0_b k1_b k0_d k1_d k0_e k1_e
      replace HX := Lib.hid (HX.out.past hb)
      replace HT0 := Lib.hid (HT0.out.past hb)
      replace HKa := Lib.hid (HKa.out.below' hb)
      replace HT1 := Lib.hid (HT1.out.past hb)
      replace HKb := Lib.hid (HKb.out.below' hb)
      replace HT2 := Lib.hid (HT2.out.past hb)
      replace HKd := Lib.hid (HKd.out.below' hb)
      replace HT3 := Lib.hid (HT3.out.past hb)
      replace HKe := Lib.hid (HKe.out.below' hb)
      replace HB := Lib.hid (below_all HB.out hb)
      clear hb
      by_cases hbad : (deathsP f0 xs0 age).2 = 0
      rotate_left
      · have hbb : ((deathsP f0 xs0 age).2 == 0) = false := by simpa using hbad
        go_wp2
        go_ret
        exact ⟨rfl, HB.out⟩
      obtain ⟨hag, hlv⟩ := deaths_good hbad
      obtain ⟨_, ha1, ha2⟩ := ageP_ok hag
      have HTab := Lib.hid (table_ok htb)
      have HEND := Lib.hid (lives_end htb ha1 ha2)
      have HDA := Lib.hid (fun a h0 h1 => deaths_at (a := a) htb h0 h1)
      rw [hlv]
      have hbb : ((deathsP f0 xs0 age).2 == 0) = true := by simpa using hbad
      obtain ⟨i, hi⟩ : ∃ i, (age - f0).toNat = i := ⟨_, rfl⟩
      rw [hi] at HEND ⊢
      have HI := Lib.hid hi
      clear htb hag hlv hi
      go_wp2
      go_loopw [21, 22] (fun t a wr => ∃ q : Nat, (q : Int) ≤ 151 - age ∧ a = .int .i64 (age + q) ∧ t = .int .i64 (lv xs0 i - lv xs0 (i + q)) ∧ Hid (Below u14.heap.size u14 wr)) (fun _ a _ => (151 - intOf a).toNat)
      case atStart => exact ⟨0, by omega, by simp, by simp, Lib.hid (Below.refl _ _)⟩
      case round =>
        obtain ⟨q, hq, rfl, rfl, HBL⟩ := hrel
        have HKr := Lib.hid (HKa.out.below' HBL.out)
        have HTr := Lib.hid (HT0.out.past HBL.out)
        have l1 := HTab.out.nonneg (i + q); have l2 := HTab.out.most (i + q)
        have l3 := HTab.out.nonneg i; have l4 := HTab.out.most i
        have l5 := HTab.out.nonneg (i + q + 1); have l6 := HTab.out.anti (i + q)
        by_cases hlt : age + (q : Int) ≤ 150
        · have k0 : wr.cell? ⟨ga, 0, none⟩ = some (.int .i64 f0) := HKr.out.cell 0
          have k1 : wr.cell? ⟨ga, 1, none⟩ = some (.slice A0 n0 c0) := HKr.out.cell 1
          have HD := Lib.hid (show deathsP f0 xs0 (age + q) = (lv xs0 (i + q) - lv xs0 (i + q + 1), 0) from by
            rw [HDA.out _ (by omega) hlt, show (age + (q : Int) - f0).toNat = i + q by have := HI.out; omega])
          go_wp2_with fail
          refine (impl_DeathsAt_any f0 A0 n0 c0 xs0 (age + q) wr HTr.out hc0 hf64).mono ?_
          rw [HD.out]
          rintro e w9 ⟨rfl, hb⟩
          have HBN := Lib.hid (HBL.out.trans (hb.mono HBL.out.size))
          clear k0 k1 hb
          go_wp2
          go_roundw
          case rel => exact ⟨q + 1, by omega, by go_num, by congr 1; rw [show i + (q + 1) = i + q + 1 by omega]; omega, HBN⟩
          case measure => simp [intOf]; omega
        · have hq2 : q = (151 - age).toNat := by omega
          have HE2 := Lib.hid (show lv xs0 (i + q) = 0 from by rw [hq2]; exact HEND.out)
          rw [HE2.out]
          go_wp2
          go_ret
          exact ⟨by simp, below_all HB.out HBL.out⟩
    · skip
      have k0_a := HKa.out.cell 0; have k1_a := HKa.out.cell 1
      change _ = some (Value.int .i64 f0) at k0_a; change _ = some (Value.slice A0 n0 c0) at k1_a
      have k0_b := HKb.out.cell 0; have k1_b := HKb.out.cell 1
      change _ = some (Value.int .i64 f0) at k0_b; change _ = some (Value.slice A1 n0 c1) at k1_b
      have k0_d := HKd.out.cell 0; have k1_d := HKd.out.cell 1
      change _ = some (Value.int .i64 f2) at k0_d; change _ = some (Value.slice A2 n2 c2) at k1_d
      have k0_e := HKe.out.cell 0; have k1_e := HKe.out.cell 1
      change _ = some (Value.int .i64 f2) at k0_e; change _ = some (Value.slice A3 n2 c3) at k1_e
      go_wp2_with fail
      refine (spec_TableText_any f0 A0 n0 c0 xs0 _ HT0.out hc0 hf64).mono ?_
      rw [HST.out]
      rintro e u11 ⟨rfl, hb⟩
      clear k0_a k1_a k0_b k1_b k0_d k1_d k0_e k1_e
      replace HX := Lib.hid (HX.out.past hb)
      replace HT0 := Lib.hid (HT0.out.past hb)
      replace HKa := Lib.hid (HKa.out.below' hb)
      replace HT1 := Lib.hid (HT1.out.past hb)
      replace HKb := Lib.hid (HKb.out.below' hb)
      replace HT2 := Lib.hid (HT2.out.past hb)
      replace HKd := Lib.hid (HKd.out.below' hb)
      replace HT3 := Lib.hid (HT3.out.past hb)
      replace HKe := Lib.hid (HKe.out.below' hb)
      replace HB := Lib.hid (below_all HB.out hb)
      clear hb
      have k0_a := HKa.out.cell 0; have k1_a := HKa.out.cell 1
      change _ = some (Value.int .i64 f0) at k0_a; change _ = some (Value.slice A0 n0 c0) at k1_a
      have k0_b := HKb.out.cell 0; have k1_b := HKb.out.cell 1
      change _ = some (Value.int .i64 f0) at k0_b; change _ = some (Value.slice A1 n0 c1) at k1_b
      have k0_d := HKd.out.cell 0; have k1_d := HKd.out.cell 1
      change _ = some (Value.int .i64 f2) at k0_d; change _ = some (Value.slice A2 n2 c2) at k1_d
      have k0_e := HKe.out.cell 0; have k1_e := HKe.out.cell 1
      change _ = some (Value.int .i64 f2) at k0_e; change _ = some (Value.slice A3 n2 c3) at k1_e
      go_wp2_with fail
      refine (likeTables9_any f0 A1 n0 c1 A0 c0 xs0 _ HT0.out.len (by omega) HT1.out.rd HT0.out.rd).mono ?_
      rintro e u12 ⟨rfl, hb⟩
      clear k0_a k1_a k0_b k1_b k0_d k1_d k0_e k1_e
      replace HX := Lib.hid (HX.out.past hb)
      replace HT0 := Lib.hid (HT0.out.past hb)
      replace HKa := Lib.hid (HKa.out.below' hb)
      replace HT1 := Lib.hid (HT1.out.past hb)
      replace HKb := Lib.hid (HKb.out.below' hb)
      replace HT2 := Lib.hid (HT2.out.past hb)
      replace HKd := Lib.hid (HKd.out.below' hb)
      replace HT3 := Lib.hid (HT3.out.past hb)
      replace HKe := Lib.hid (HKe.out.below' hb)
      replace HB := Lib.hid (below_all HB.out hb)
      clear hb
      have k0_a := HKa.out.cell 0; have k1_a := HKa.out.cell 1
      change _ = some (Value.int .i64 f0) at k0_a; change _ = some (Value.slice A0 n0 c0) at k1_a
      have k0_b := HKb.out.cell 0; have k1_b := HKb.out.cell 1
      change _ = some (Value.int .i64 f0) at k0_b; change _ = some (Value.slice A1 n0 c1) at k1_b
      have k0_d := HKd.out.cell 0; have k1_d := HKd.out.cell 1
      change _ = some (Value.int .i64 f2) at k0_d; change _ = some (Value.slice A2 n2 c2) at k1_d
      have k0_e := HKe.out.cell 0; have k1_e := HKe.out.cell 1
      change _ = some (Value.int .i64 f2) at k0_e; change _ = some (Value.slice A3 n2 c3) at k1_e
      go_wp2_with fail
      refine (likeTables9_any f2 A2 n2 c2 A3 c3 xs2 _ HT2.out.len HT2.out.small HT2.out.rd HT3.out.rd).mono ?_
      rintro e u13 ⟨rfl, hb⟩
      clear k0_a k1_a k0_b k1_b k0_d k1_d k0_e k1_e
      replace HX := Lib.hid (HX.out.past hb)
      replace HT0 := Lib.hid (HT0.out.past hb)
      replace HKa := Lib.hid (HKa.out.below' hb)
      replace HT1 := Lib.hid (HT1.out.past hb)
      replace HKb := Lib.hid (HKb.out.below' hb)
      replace HT2 := Lib.hid (HT2.out.past hb)
      replace HKd := Lib.hid (HKd.out.below' hb)
      replace HT3 := Lib.hid (HT3.out.past hb)
      replace HKe := Lib.hid (HKe.out.below' hb)
      replace HB := Lib.hid (below_all HB.out hb)
      clear hb
      have k0_a := HKa.out.cell 0; have k1_a := HKa.out.cell 1
      change _ = some (Value.int .i64 f0) at k0_a; change _ = some (Value.slice A0 n0 c0) at k1_a
      have k0_b := HKb.out.cell 0; have k1_b := HKb.out.cell 1
      change _ = some (Value.int .i64 f0) at k0_b; change _ = some (Value.slice A1 n0 c1) at k1_b
      have k0_d := HKd.out.cell 0; have k1_d := HKd.out.cell 1
      change _ = some (Value.int .i64 f2) at k0_d; change _ = some (Value.slice A2 n2 c2) at k1_d
      have k0_e := HKe.out.cell 0; have k1_e := HKe.out.cell 1
      change _ = some (Value.int .i64 f2) at k0_e; change _ = some (Value.slice A3 n2 c3) at k1_e
      go_wp2_with fail
      refine (impl_TableText_any f2 A2 n2 c2 xs2 _ HT2.out hc2 HF2.out (HEnv.out.past HB.out).tab).mono ?_
      rw [HTX.out (by simp)]
      rintro e u14 ⟨rfl, hb⟩
      clear k0_a k1_a k0_b k1_b k0_d k1_d k0_e k1_e
      replace HX := Lib.hid (HX.out.past hb)
      replace HT0 := Lib.hid (HT0.out.past hb)
      replace HKa := Lib.hid (HKa.out.below' hb)
      replace HT1 := Lib.hid (HT1.out.past hb)
      replace HKb := Lib.hid (HKb.out.below' hb)
      replace HT2 := Lib.hid (HT2.out.past hb)
      replace HKd := Lib.hid (HKd.out.below' hb)
      replace HT3 := Lib.hid (HT3.out.past hb)
      replace HKe := Lib.hid (HKe.out.below' hb)
      replace HB := Lib.hid (below_all HB.out hb)
      clear hb
      have k0_a := HKa.out.cell 0; have k1_a := HKa.out.cell 1
      change _ = some (Value.int .i64 f0) at k0_a; change _ = some (Value.slice A0 n0 c0) at k1_a
      have k0_b := HKb.out.cell 0; have k1_b := HKb.out.cell 1
      change _ = some (Value.int .i64 f0) at k0_b; change _ = some (Value.slice A1 n0 c1) at k1_b
      have k0_d := HKd.out.cell 0; have k1_d := HKd.out.cell 1
      change _ = some (Value.int .i64 f2) at k0_d; change _ = some (Value.slice A2 n2 c2) at k1_d
      have k0_e := HKe.out.cell 0; have k1_e := HKe.out.cell 1
      change _ = some (Value.int .i64 f2) at k0_e; change _ = some (Value.slice A3 n2 c3) at k1_e
      go_wp2_with fail
      refine (impl_IsLifeTable_any f0 A0 n0 c0 xs0 _ HT0.out hc0 hf64).mono ?_
      rw [htb]
      rintro e u15 ⟨rfl, hb⟩
      clear k0_a k1_a k0_b k1_b k0_d k1_d k0_e k1_e
      replace HX := Lib.hid (HX.out.past hb)
      replace HT0 := Lib.hid (HT0.out.past hb)
      replace HKa := Lib.hid (HKa.out.below' hb)
      replace HT1 := Lib.hid (HT1.out.past hb)
      replace HKb := Lib.hid (HKb.out.below' hb)
      replace HT2 := Lib.hid (HT2.out.past hb)
      replace HKd := Lib.hid (HKd.out.below' hb)
      replace HT3 := Lib.hid (HT3.out.past hb)
      replace HKe := Lib.hid (HKe.out.below' hb)
      replace HB := Lib.hid (below_all HB.out hb)
      clear hb
      by_cases hbad : (deathsP f0 xs0 age).2 = 0
      rotate_left
      · have hbb : ((deathsP f0 xs0 age).2 == 0) = false := by simpa using hbad
        go_wp2
        go_ret
        exact ⟨rfl, HB.out⟩
      obtain ⟨hag, hlv⟩ := deaths_good hbad
      obtain ⟨_, ha1, ha2⟩ := ageP_ok hag
      have HTab := Lib.hid (table_ok htb)
      have HEND := Lib.hid (lives_end htb ha1 ha2)
      have HDA := Lib.hid (fun a h0 h1 => deaths_at (a := a) htb h0 h1)
      rw [hlv]
      have hbb : ((deathsP f0 xs0 age).2 == 0) = true := by simpa using hbad
      obtain ⟨i, hi⟩ : ∃ i, (age - f0).toNat = i := ⟨_, rfl⟩
      rw [hi] at HEND ⊢
      have HI := Lib.hid hi
      clear htb hag hlv hi
      go_wp2
      go_loopw [21, 22] (fun t a wr => ∃ q : Nat, (q : Int) ≤ 151 - age ∧ a = .int .i64 (age + q) ∧ t = .int .i64 (lv xs0 i - lv xs0 (i + q)) ∧ Hid (Below u15.heap.size u15 wr)) (fun _ a _ => (151 - intOf a).toNat)
      case atStart => exact ⟨0, by omega, by simp, by simp, Lib.hid (Below.refl _ _)⟩
      case round =>
        obtain ⟨q, hq, rfl, rfl, HBL⟩ := hrel
        have HKr := Lib.hid (HKa.out.below' HBL.out)
        have HTr := Lib.hid (HT0.out.past HBL.out)
        have l1 := HTab.out.nonneg (i + q); have l2 := HTab.out.most (i + q)
        have l3 := HTab.out.nonneg i; have l4 := HTab.out.most i
        have l5 := HTab.out.nonneg (i + q + 1); have l6 := HTab.out.anti (i + q)
        by_cases hlt : age + (q : Int) ≤ 150
        · have k0 : wr.cell? ⟨ga, 0, none⟩ = some (.int .i64 f0) := HKr.out.cell 0
          have k1 : wr.cell? ⟨ga, 1, none⟩ = some (.slice A0 n0 c0) := HKr.out.cell 1
          have HD := Lib.hid (show deathsP f0 xs0 (age + q) = (lv xs0 (i + q) - lv xs0 (i + q + 1), 0) from by
            rw [HDA.out _ (by omega) hlt, show (age + (q : Int) - f0).toNat = i + q by have := HI.out; omega])
          go_wp2_with fail
          refine (impl_DeathsAt_any f0 A0 n0 c0 xs0 (age + q) wr HTr.out hc0 hf64).mono ?_
          rw [HD.out]
          rintro e w9 ⟨rfl, hb⟩
          have HBN := Lib.hid (HBL.out.trans (hb.mono HBL.out.size))
          clear k0 k1 hb
          go_wp2
          go_roundw
          case rel => exact ⟨q + 1, by omega, by go_num, by congr 1; rw [show i + (q + 1) = i + q + 1 by omega]; omega, HBN⟩
          case measure => simp [intOf]; omega
        · have hq2 : q = (151 - age).toNat := by omega
          have HE2 := Lib.hid (show lv xs0 (i + q) = 0 from by rw [hq2]; exact HEND.out)
          rw [HE2.out]
          go_wp2
          go_ret
          exact ⟨by simp, below_all HB.out HBL.out⟩

/-- the value that a datum of a table lays -/
def valAt : DataW Unit → Value
  | .lit (.int k z) => .int k z
  | .lit (.string b) => .string ⟨b.toArray⟩
  | _ => .nilIface
def valsRow : DataW Unit → List Value
  | .agg ds => ds.map valAt
  | d => [valAt d]
def valsAll : DataW Unit → List Value
  | .agg ds => (ds.map valsRow).flatten
  | _ => []
def layTab (vs : List Value) : Obj → Obj
  | .cells _ t frozen => .cells vs.toArray t frozen
  | o => o
def layErr (g : Nat) : Obj → Obj
  | .cells _ t frozen => .cells #[.iface 231 (.pointer (some ⟨g, 0, none⟩))] t frozen
  | o => o
def rangeS : ByteArray := ⟨#[118, 97, 108, 117, 101, 32, 111, 117, 116, 32, 111, 102, 32, 114, 97, 110, 103, 101]⟩
def synS : ByteArray := ⟨#[105, 110, 118, 97, 108, 105, 100, 32, 115, 121, 110, 116, 97, 120]⟩
noncomputable def low : Nat := (World.holding Tryz.prog default ⟨#[], #[], []⟩).heap.size
noncomputable def laidWorld (os : Os) : World :=
  { World.holding Tryz.prog os ⟨#[.cells #[.string rangeS] 233, .cells #[.string synS] 233], #[], []⟩ with heap := ((((((((World.holding Tryz.prog os ⟨#[.cells #[.string rangeS] 233, .cells #[.string synS] 233], #[], []⟩).heap.modify 9 (layTab (valsAll Rows.laid_math_bits_deBruijn32tab))).modify 10 (layTab (valsAll Rows.laid_math_bits_deBruijn64tab))).modify 6 (layTab (valsAll Rows.laid_internal_strconv_uint64pow10))).modify 8 (layTab (valsAll Rows.laid_unicode_utf8_acceptRanges))).modify 2 (layErr low)).modify 1 (layErr (low + 1))).modify 7 (layTab (valsAll Rows.laid_unicode_utf8_first))) }
theorem laid_met (os : Os) : laidMet Tryz.prog Rows.fnLifeTablesRow.laid ((laidWorld os).forCall (fun _ _ => 0) ⟨#[], #[.slice none 0 0], []⟩).memory :=
  laidMet_of_run' 8 (by kernel_rfl) (by kernel_rfl)
theorem reads (os : Os) {H : Type} (enc : TypeId × Value → H) : ∃ places, DataW.whole enc Tryz.prog ((laidWorld os).forCall (fun _ _ => 0) ⟨#[], #[.slice none 0 0], []⟩).memory Tryz.f7.params.toList Rows.fnLifeTablesSpec.vars false #[.slice none 0 0].toList 8 = some ([.nil], [], places) :=
  ⟨[], by kernel_rfl⟩

set_option maxRecDepth 100000 in
theorem lifted (os : Os) (started : os.Started) (H : Type) (enc : TypeId × Value → H) (F : Stop.Interp) :
    ReturnsInHanded {} Tryz.checked os 7 .any ((OpenSpec.ofChange Rows.fnLifeTablesSpec).preRow enc Tryz.prog Tryz.f7 Rows.fnLifeTablesRow.domain false Rows.fnLifeTablesRow.laid) (((OpenSpec.ofChange Rows.fnLifeTablesSpec).at F).post enc Tryz.prog Tryz.f7 false true false false) := by
  obtain ⟨places, hx⟩ := reads os enc
  refine law_liftedDS os started H enc F 4 (by kernel_rfl) Tryz.func7
    (witness_row_at (enc := enc) (C := Tryz.checked) false (laidWorld os) #[.slice none 0 0] rfl (by kernel_rfl) (by kernel_rfl) (by kernel_rfl)
      (OpenSpec.preRow_of_cond 8 hx (by kernel_rfl) (fun k hk => by cases hk) (by kernel_rfl) (laid_met os))) (by kernel_rfl) rfl Tryz.underlying4
    (by rw [Tryz.params7]; simp only [List.forall_mem_cons]; exact ⟨⟨by kernel_rfl, of_decide_eq_true (by kernel_rfl)⟩, by simp⟩) (fun ds gs hl hg => by
      match ds, hl, gs, hg with
      | [d0], _, [], _ => rfl) ?_
  intro W base args ds p hval hA hL0 hsh
  have hL : laidMet Tryz.prog [("math/bits.deBruijn32tab", Rows.laid_math_bits_deBruijn32tab), ("math/bits.deBruijn64tab", Rows.laid_math_bits_deBruijn64tab), ("internal/strconv.uint64pow10", Rows.laid_internal_strconv_uint64pow10), ("unicode/utf8.acceptRanges", Rows.laid_unicode_utf8_acceptRanges), ("strconv.ErrRange", Rows.laid_strconv_ErrRange), ("strconv.ErrSyntax", Rows.laid_strconv_ErrSyntax), ("unicode/utf8.first", Rows.laid_unicode_utf8_first)] W := hL0
  have h2 := hL.tail.tail
  have h4 := h2.tail.tail
  have h5 := h4.tail
  obtain ⟨_, hv2, _⟩ := h2
  have hE : Env W := ⟨tab_of_vars hv2, syn_of h5, rng_of h4, mx_of hsh⟩
  rw [Tryz.params7] at hA hval
  obtain ⟨v0, vs0, d0, ds0, p0, q0, hargs, rfl, rfl, h0, r0⟩ := trodAll_cons hA
  obtain ⟨rfl, rfl, rfl⟩ := trodAll_nil r0
  obtain rfl : args = #[v0] := by cases args; simp_all
  obtain ⟨A0, n0, c0, rfl⟩ := okWide_slice Tryz.underlying28 (hval 0 28 v0 rfl rfl)
  obtain ⟨fu0, ho0⟩ := h0
  obtain ⟨bs, hbl, hby, hRd, hnm⟩ := open_code Tryz.underlying28 Tryz.underlying5 (by kernel_rfl) ho0
  exact walk ⟨A0, n0, c0, bs⟩ hbl hby hnm W hRd hE
theorem said : Rows.FnLifeTablesSaid :=
  OpenClaim.holds_of_cond 7 Tryz.f7 rfl rfl rfl rfl rfl rfl rfl ⟨rfl, rfl, rfl, rfl, rfl⟩ rfl rfl rfl rfl rfl (by kernel_rfl) Tryz.func7 (by kernel_rfl)
    (of_decide_eq_true (by kernel_rfl)) (by unfold Func.isWrapper; first | (rw [if_pos (by decide +kernel)]; kernel_rfl) | (rw [if_neg (by decide +kernel)]; exact ⟨rfl, rfl⟩))
    (fun os started H enc _ F => by rw [OpenClaim.pre_eq_preRow]; exact lifted os started H enc F)
theorem plain (f : FuncId) (fn : Func) (hf : Tryz.pinned.checked.prog.funcNamed "loop.example/g01025/laws.FnLifeTables" = some f) (hfn : Tryz.pinned.checked.prog.funcs[f]? = some fn) :
    true = Tryz.pinned.checked.prog.looks [] ∧ ∀ (j : Nat) t, fn.params[j]? = some t → Tryz.pinned.checked.prog.wantsStandIn t = false := by
  obtain rfl : f = 7 := Option.some.inj ((show Tryz.prog.funcNamed "loop.example/g01025/laws.FnLifeTables" = some 7 by kernel_rfl).symm.trans hf) |>.symm
  obtain rfl : fn = Tryz.f7 := (Option.some.inj (Tryz.func7.symm.trans hfn)).symm
  refine ⟨by kernel_rfl, fun j t ht => ?_⟩
  rw [Tryz.params7] at ht
  have hm : t ∈ [28] := by simpa using Array.mem_of_getElem? ht
  exact (show ∀ t ∈ [28], Tryz.prog.wantsStandIn t = false by simp only [List.forall_mem_cons]; exact ⟨by kernel_rfl, by simp⟩) t hm
theorem proved : Rows.FnLifeTablesCardSaid :=
  Claim7.holds_tied_plain_at .later [] _ _ _ _ said (fun _ h => by cases h) (by kernel_rfl) (fun _ h => by cases h) fnLifeTables_row_tie rfl ⟨rfl, rfl⟩ (by kernel_rfl) rfl plain (by kernel_rfl)
end fnLifeTables
end Go.Proofs.YtlbllonpodckgaaGreatDoor
