/- The law on policies' texts: a sum for a premium is not charged more, and a policy is found from its text. No condition but the laid tables. -/
import Derived.Test.YtkdfdbcpbgganaaGreatDoorK0
import Derived.Test.YtkdfdbcpbgganaaGreatDoorK1
import Derived.Test.YtkdfdbcpbgganaaGreatDoorK17
namespace Go.Proofs.YtkdfdbcpbgganaaGreatDoor
open Go.ChangeShapes Go.WideShapes Go.ChangeAt Go.RowKit Go.Deep
namespace fnPolicyTexts
set_option maxRecDepth 100000 in
set_option maxHeartbeats 16000000 in
theorem walk (K : Code) (hlen : K.bs.length = K.n) (hbyte : ∀ x ∈ K.bs, 0 ≤ x ∧ x ≤ 255) (hmax : K.n ≤ 9223372036854775807) (w : World) (hX : Rd w w.heap.size K.A 1 (byteRows K.bs)) (hEnv : Env w) :
    Calls Tryz.prog 4 #[.slice K.A K.n K.c] w fun e w' => e = .returned (.bool true) ∧ Below w.heap.size w w' := by
  by_cases hbig : 4096 < K.n
  · have hd : decide (4096 < K.n) = true := by simpa using hbig
    clear hX hbyte hlen hEnv
    go_enter Tryz.func4, Tryz.ntmps4
    go_wp2_with (go_at_call 5; refine (laws_big_any K.A K.n K.c _ (by omega)).mono ?_; rw [hd]; rintro e w' ⟨rfl, rfl⟩)
    go_ret
    exact ⟨rfl, Below.refl _ _⟩
  have hd : decide (4096 < K.n) = false := by simpa using hbig
  have hK : K.Ok := ⟨hlen, by omega, hbyte⟩
  have HX := Lib.hid hX
  have HB := Lib.hid (Below.refl w.heap.size w)
  have HEnv := Lib.hid hEnv
  clear hX hbyte hlen hbig hEnv
  go_enter Tryz.func4, Tryz.ntmps4
  go_wp2_with (go_at_call 5; refine (laws_big_any K.A K.n K.c _ (by omega)).mono ?_; rw [hd]; rintro e w' ⟨rfl, rfl⟩)
  refine (spec_DrawSumForPremium_any K hK _ HX.out).mono ?_
  rintro e w1 ⟨b, A0, n0, c0, p, prem, rfl, hE, hn0, hlv, hf0, hr0, hfit, hprem, hb⟩
  unfold Policy.row
  have hll : b.lives.length = n0 := by have := hE.len; rwa [intRows_length] at this
  have HBT := Lib.hid (BasT.of_res hE (by omega) (fun x hx => by have := hlv x hx; unfold In64; omega) (by unfold In64; omega) (by unfold In64; omega))
  have HFIT := Lib.hid hfit
  have haq : ∀ ad, A0 = some ad → ad.block < w1.heap.size := fun ad had => by
    obtain ⟨g9, cs9, hA9, _, hB9, _⟩ := hE.at_ (by omega)
    rw [hA9] at had
    injection had with had
    subst had
    exact hB9.lt
  clear hE hlv hll hfit
  replace HX := Lib.hid (HX.out.past hb)
  replace HB := Lib.hid (below_all HB.out hb)
  clear hb
  have hw1 : w.heap.size ≤ w1.heap.size := HB.out.size
  obtain ⟨hb, hKa, hKq, hz⟩ := two_boxes w1 [.int .i64 b.first, .slice A0 n0 c0, .int .i64 b.rate] [.int .i64 p.kind, .int .i64 p.age, .int .i64 p.years, .int .i64 p.sum, .int .i64 p.load] 40 42
  have HKa := Lib.hid hKa; have HKq := Lib.hid hKq
  clear hKa hKq hz
  replace HX := Lib.hid (HX.out.past hb)
  replace HBT := Lib.hid (HBT.out.past hb)
  replace HB := Lib.hid (below_all HB.out hb)
  clear hb
  go_upto_region 4 with (fail)
  generalize ((w1.alloc (.cells #[.int .i64 b.first, .slice A0 n0 c0, .int .i64 b.rate] 40)).alloc (.cells #[.int .i64 p.kind, .int .i64 p.age, .int .i64 p.years, .int .i64 p.sum, .int .i64 p.load] 42)) = va at HB HX HBT HKa HKq ⊢
  obtain ⟨ga, hga⟩ : ∃ ga, w1.heap.size = ga := ⟨_, rfl⟩
  obtain ⟨gq, hgq⟩ : ∃ gq, ga + 1 = gq := ⟨_, rfl⟩
  rw [hga] at HKa HKq haq hw1 ⊢
  rw [hgq] at HKq ⊢
  have hgne : ga ≠ gq := by omega
  have HGQ := Lib.hid (show w.heap.size ≤ gq by omega)
  have HAQ := Lib.hid (fun ad (h : A0 = some ad) => (show ad.block ≠ gq from by have := haq ad h; omega))
  clear hga hgq haq hw1
  have k0_a := HKa.out.cell 0
  change _ = some (Value.int .i64 b.first) at k0_a
  have k1_a := HKa.out.cell 1
  change _ = some (Value.slice A0 n0 c0) at k1_a
  have k2_a := HKa.out.cell 2
  change _ = some (Value.int .i64 b.rate) at k2_a
  have k0_q := HKq.out.cell 0
  change _ = some (Value.int .i64 p.kind) at k0_q
  have k1_q := HKq.out.cell 1
  change _ = some (Value.int .i64 p.age) at k1_q
  have k2_q := HKq.out.cell 2
  change _ = some (Value.int .i64 p.years) at k2_q
  have k3_q := HKq.out.cell 3
  change _ = some (Value.int .i64 p.sum) at k3_q
  have k4_q := HKq.out.cell 4
  change _ = some (Value.int .i64 p.load) at k4_q
  go_wp2_with fail
  refine (impl_SumForPremium_any b A0 n0 c0 p prem _ HBT.out HFIT.out).mono ?_
  rintro e w2 ⟨rfl, hb⟩
  clear k0_a k1_a k2_a k0_q k1_q k2_q k3_q k4_q
  replace HX := Lib.hid (HX.out.past hb)
  replace HBT := Lib.hid (HBT.out.past hb)
  replace HKa := Lib.hid (HKa.out.below' hb)
  replace HKq := Lib.hid (HKq.out.below' hb)
  replace HB := Lib.hid (below_all HB.out hb)
  clear hb
  have k0_a := HKa.out.cell 0
  change _ = some (Value.int .i64 b.first) at k0_a
  have k1_a := HKa.out.cell 1
  change _ = some (Value.slice A0 n0 c0) at k1_a
  have k2_a := HKa.out.cell 2
  change _ = some (Value.int .i64 b.rate) at k2_a
  have k0_q := HKq.out.cell 0
  change _ = some (Value.int .i64 p.kind) at k0_q
  have k1_q := HKq.out.cell 1
  change _ = some (Value.int .i64 p.age) at k1_q
  have k2_q := HKq.out.cell 2
  change _ = some (Value.int .i64 p.years) at k2_q
  have k3_q := HKq.out.cell 3
  change _ = some (Value.int .i64 p.sum) at k3_q
  have k4_q := HKq.out.cell 4
  change _ = some (Value.int .i64 p.load) at k4_q
  go_wp2_with fail
  refine (spec_SumForPremium_any b A0 n0 c0 p prem _ HBT.out HFIT.out).mono ?_
  rintro e w3 ⟨rfl, hb⟩
  clear k0_a k1_a k2_a k0_q k1_q k2_q k3_q k4_q
  replace HX := Lib.hid (HX.out.past hb)
  replace HBT := Lib.hid (HBT.out.past hb)
  replace HKa := Lib.hid (HKa.out.below' hb)
  replace HKq := Lib.hid (HKq.out.below' hb)
  replace HB := Lib.hid (below_all HB.out hb)
  clear hb
  go_wp2_with fail
  refine (spec_DrawPolicyText_any K hK _ HX.out).mono ?_
  rintro e w4 ⟨x, rfl, hxf, hb⟩
  unfold Policy.row
  have HXF := Lib.hid hxf; clear hxf
  replace HX := Lib.hid (HX.out.past hb)
  replace HBT := Lib.hid (HBT.out.past hb)
  replace HKa := Lib.hid (HKa.out.below' hb)
  replace HKq := Lib.hid (HKq.out.below' hb)
  replace HB := Lib.hid (below_all HB.out hb)
  clear hb
  have hb : Below w4.heap.size w4 (w4.alloc (.cells #[.int .i64 x.kind, .int .i64 x.age, .int .i64 x.years, .int .i64 x.sum, .int .i64 x.load] 42)) := (Below.refl _ _).alloc (Nat.le_refl _) _
  have HKx := Lib.hid (Blk.new w4 42 #[.int .i64 x.kind, .int .i64 x.age, .int .i64 x.years, .int .i64 x.sum, .int .i64 x.load])
  replace HX := Lib.hid (HX.out.past hb)
  replace HBT := Lib.hid (HBT.out.past hb)
  replace HKa := Lib.hid (HKa.out.below' hb)
  replace HKq := Lib.hid (HKq.out.below' hb)
  replace HB := Lib.hid (below_all HB.out hb)
  clear hb
  go_upto_region 7 with (fail)
  generalize w4.alloc (.cells #[.int .i64 x.kind, .int .i64 x.age, .int .i64 x.years, .int .i64 x.sum, .int .i64 x.load] 42) = vx at HB HX HBT HKa HKq HKx ⊢
  generalize w4.heap.size = gx at HKx ⊢
  have k0_x := HKx.out.cell 0
  change _ = some (Value.int .i64 x.kind) at k0_x
  have k1_x := HKx.out.cell 1
  change _ = some (Value.int .i64 x.age) at k1_x
  have k2_x := HKx.out.cell 2
  change _ = some (Value.int .i64 x.years) at k2_x
  have k3_x := HKx.out.cell 3
  change _ = some (Value.int .i64 x.sum) at k3_x
  have k4_x := HKx.out.cell 4
  change _ = some (Value.int .i64 x.load) at k4_x
  go_wp2_with fail
  refine (impl_PolicyText_any x _ (HEnv.out.past HB.out)).mono ?_
  rintro e w5 ⟨rfl, hb⟩
  clear k0_x k1_x k2_x k3_x k4_x
  replace HX := Lib.hid (HX.out.past hb)
  replace HBT := Lib.hid (HBT.out.past hb)
  replace HKa := Lib.hid (HKa.out.below' hb)
  replace HKq := Lib.hid (HKq.out.below' hb)
  replace HKx := Lib.hid (HKx.out.below' hb)
  replace HB := Lib.hid (below_all HB.out hb)
  clear hb
  have hts := polT_size x
  obtain ⟨st, hst⟩ : ∃ st, S (polT x) = st := ⟨_, rfl⟩
  rw [hst] at hts ⊢
  have HST := Lib.hid hst
  clear hst
  go_wp2_with fail
  refine (impl_ReadPolicy_any st (by omega) _ (HEnv.out.past HB.out)).mono ?_
  rintro e w6 ⟨y, b1, rfl, hf1, hy1, hz1, hu1, hb⟩
  unfold Policy.row
  have HY1 := Lib.hid hy1; have HZ1 := Lib.hid hz1; have HU1 := Lib.hid hu1
  clear hf1 hy1 hz1 hu1
  replace HX := Lib.hid (HX.out.past hb)
  replace HBT := Lib.hid (HBT.out.past hb)
  replace HKa := Lib.hid (HKa.out.below' hb)
  replace HKq := Lib.hid (HKq.out.below' hb)
  replace HKx := Lib.hid (HKx.out.below' hb)
  replace HB := Lib.hid (below_all HB.out hb)
  clear hb
  have hb : Below w6.heap.size w6 (w6.alloc (.cells #[.int .i64 y.kind, .int .i64 y.age, .int .i64 y.years, .int .i64 y.sum, .int .i64 y.load] 42)) := (Below.refl _ _).alloc (Nat.le_refl _) _
  have HKy := Lib.hid (Blk.new w6 42 #[.int .i64 y.kind, .int .i64 y.age, .int .i64 y.years, .int .i64 y.sum, .int .i64 y.load])
  replace HX := Lib.hid (HX.out.past hb)
  replace HBT := Lib.hid (HBT.out.past hb)
  replace HKa := Lib.hid (HKa.out.below' hb)
  replace HKq := Lib.hid (HKq.out.below' hb)
  replace HKx := Lib.hid (HKx.out.below' hb)
  replace HB := Lib.hid (below_all HB.out hb)
  clear hb
  go_upto_region 9 with (fail)
  generalize w6.alloc (.cells #[.int .i64 y.kind, .int .i64 y.age, .int .i64 y.years, .int .i64 y.sum, .int .i64 y.load] 42) = vy at HB HX HBT HKa HKq HKx HKy ⊢
  generalize w6.heap.size = gy at HKy ⊢
  go_wp2_with fail
  refine (spec_DrawReadPolicy_any K hK _ HX.out).mono ?_
  rintro e w7 ⟨r, rfl, hr2, hb⟩
  replace HX := Lib.hid (HX.out.past hb)
  replace HBT := Lib.hid (HBT.out.past hb)
  replace HKa := Lib.hid (HKa.out.below' hb)
  replace HKq := Lib.hid (HKq.out.below' hb)
  replace HKx := Lib.hid (HKx.out.below' hb)
  replace HKy := Lib.hid (HKy.out.below' hb)
  replace HB := Lib.hid (below_all HB.out hb)
  clear hb
  go_wp2_with fail
  refine (impl_ReadPolicy_any r (by omega) _ (HEnv.out.past HB.out)).mono ?_
  rintro e w8 ⟨u, b2, rfl, hf2, hy2, hz2, hu2, hb⟩
  unfold Policy.row
  have HY2 := Lib.hid hy2; have HZ2 := Lib.hid hz2; have HU2 := Lib.hid hu2
  clear hf2 hy2 hz2 hu2
  replace HX := Lib.hid (HX.out.past hb)
  replace HBT := Lib.hid (HBT.out.past hb)
  replace HKa := Lib.hid (HKa.out.below' hb)
  replace HKq := Lib.hid (HKq.out.below' hb)
  replace HKx := Lib.hid (HKx.out.below' hb)
  replace HKy := Lib.hid (HKy.out.below' hb)
  replace HB := Lib.hid (below_all HB.out hb)
  clear hb
  have hb : Below w8.heap.size w8 (w8.alloc (.cells #[.int .i64 u.kind, .int .i64 u.age, .int .i64 u.years, .int .i64 u.sum, .int .i64 u.load] 42)) := (Below.refl _ _).alloc (Nat.le_refl _) _
  have HKu := Lib.hid (Blk.new w8 42 #[.int .i64 u.kind, .int .i64 u.age, .int .i64 u.years, .int .i64 u.sum, .int .i64 u.load])
  replace HX := Lib.hid (HX.out.past hb)
  replace HBT := Lib.hid (HBT.out.past hb)
  replace HKa := Lib.hid (HKa.out.below' hb)
  replace HKq := Lib.hid (HKq.out.below' hb)
  replace HKx := Lib.hid (HKx.out.below' hb)
  replace HKy := Lib.hid (HKy.out.below' hb)
  replace HB := Lib.hid (below_all HB.out hb)
  clear hb
  go_upto_region 11 with (fail)
  generalize w8.alloc (.cells #[.int .i64 u.kind, .int .i64 u.age, .int .i64 u.years, .int .i64 u.sum, .int .i64 u.load] 42) = vu at HB HX HBT HKa HKq HKx HKy HKu ⊢
  generalize w8.heap.size = gu at HKu ⊢
  go_wp2_with fail
  refine (spec_ReadPolicy_any r (by omega) _).mono ?_
  rintro e w9 ⟨v, b3, rfl, hf3, hy3, hz3, hu3, hb⟩
  unfold Policy.row
  have HY3 := Lib.hid hy3; have HZ3 := Lib.hid hz3; have HU3 := Lib.hid hu3
  clear hf3 hy3 hz3 hu3
  replace HX := Lib.hid (HX.out.past hb)
  replace HBT := Lib.hid (HBT.out.past hb)
  replace HKa := Lib.hid (HKa.out.below' hb)
  replace HKq := Lib.hid (HKq.out.below' hb)
  replace HKx := Lib.hid (HKx.out.below' hb)
  replace HKy := Lib.hid (HKy.out.below' hb)
  replace HKu := Lib.hid (HKu.out.below' hb)
  replace HB := Lib.hid (below_all HB.out hb)
  clear hb
  have hb : Below w9.heap.size w9 (w9.alloc (.cells #[.int .i64 v.kind, .int .i64 v.age, .int .i64 v.years, .int .i64 v.sum, .int .i64 v.load] 42)) := (Below.refl _ _).alloc (Nat.le_refl _) _
  have HKv := Lib.hid (Blk.new w9 42 #[.int .i64 v.kind, .int .i64 v.age, .int .i64 v.years, .int .i64 v.sum, .int .i64 v.load])
  replace HX := Lib.hid (HX.out.past hb)
  replace HBT := Lib.hid (HBT.out.past hb)
  replace HKa := Lib.hid (HKa.out.below' hb)
  replace HKq := Lib.hid (HKq.out.below' hb)
  replace HKx := Lib.hid (HKx.out.below' hb)
  replace HKy := Lib.hid (HKy.out.below' hb)
  replace HKu := Lib.hid (HKu.out.below' hb)
  replace HB := Lib.hid (below_all HB.out hb)
  clear hb
  go_upto_region 12 with (fail)
  generalize w9.alloc (.cells #[.int .i64 v.kind, .int .i64 v.age, .int .i64 v.years, .int .i64 v.sum, .int .i64 v.load] 42) = vv at HB HX HBT HKa HKq HKx HKy HKu HKv ⊢
  generalize w9.heap.size = gv at HKv ⊢
  have huv : u = v ∧ b2 = b3 := by
    cases hb2 : b2
    · cases hb3 : b3
      · exact ⟨(HZ2.out hb2).trans (HZ3.out hb3).symm, rfl⟩
      · obtain ⟨h1, h2⟩ := HY3.out hb3
        have := (HU2.out _ h1 h2).2
        rw [hb2] at this; cases this
    · obtain ⟨h1, h2⟩ := HY2.out hb2
      obtain ⟨h3, h4⟩ := HU3.out _ h1 h2
      exact ⟨h3.symm, h4.symm⟩
  obtain ⟨rfl, rfl⟩ := huv
  have HTX := Lib.hid (fun (h : b2 = true) => (show S (polT u) = r from by
    obtain ⟨h1, h2⟩ := HY2.out h
    rw [polT_yes h1, ← h2]
    exact S_of r))
  cases htb : polA x
  · have HSE := Lib.hid (show st = S [] from by rw [← HST.out, polT_no htb])
    have hb1 : b1 = false := by
      cases hb : b1
      · rfl
      · have h1 := (HY1.out hb).2
        rw [HSE.out, S_list] at h1
        exact absurd h1.symm (intsL_ne _ _ _)
    subst hb1
    have hse : st.toList.isEmpty = true := by rw [HSE.out, ByteArray.toList_eq, S_list]; rfl
    cases b2
    · skip
      have k0_x := HKx.out.cell 0
      change _ = some (Value.int .i64 x.kind) at k0_x
      have k1_x := HKx.out.cell 1
      change _ = some (Value.int .i64 x.age) at k1_x
      have k2_x := HKx.out.cell 2
      change _ = some (Value.int .i64 x.years) at k2_x
      have k3_x := HKx.out.cell 3
      change _ = some (Value.int .i64 x.sum) at k3_x
      have k4_x := HKx.out.cell 4
      change _ = some (Value.int .i64 x.load) at k4_x
      have k0_y := HKy.out.cell 0
      change _ = some (Value.int .i64 y.kind) at k0_y
      have k1_y := HKy.out.cell 1
      change _ = some (Value.int .i64 y.age) at k1_y
      have k2_y := HKy.out.cell 2
      change _ = some (Value.int .i64 y.years) at k2_y
      have k3_y := HKy.out.cell 3
      change _ = some (Value.int .i64 y.sum) at k3_y
      have k4_y := HKy.out.cell 4
      change _ = some (Value.int .i64 y.load) at k4_y
      have k0_u := HKu.out.cell 0
      change _ = some (Value.int .i64 u.kind) at k0_u
      have k1_u := HKu.out.cell 1
      change _ = some (Value.int .i64 u.age) at k1_u
      have k2_u := HKu.out.cell 2
      change _ = some (Value.int .i64 u.years) at k2_u
      have k3_u := HKu.out.cell 3
      change _ = some (Value.int .i64 u.sum) at k3_u
      have k4_u := HKu.out.cell 4
      change _ = some (Value.int .i64 u.load) at k4_u
      have k0_v := HKv.out.cell 0
      change _ = some (Value.int .i64 u.kind) at k0_v
      have k1_v := HKv.out.cell 1
      change _ = some (Value.int .i64 u.age) at k1_v
      have k2_v := HKv.out.cell 2
      change _ = some (Value.int .i64 u.years) at k2_v
      have k3_v := HKv.out.cell 3
      change _ = some (Value.int .i64 u.sum) at k3_v
      have k4_v := HKv.out.cell 4
      change _ = some (Value.int .i64 u.load) at k4_v
      go_wp2_with fail
      refine (spec_PolicyText_any x _).mono ?_
      rw [HST.out]
      rintro e u10 ⟨rfl, hb⟩
      clear k0_x k1_x k2_x k3_x k4_x k0_y k1_y k2_y k3_y k4_y k0_u k1_u k2_u k3_u k4_u k0_v k1_v k2_v k3_v k4_v
      replace HX := Lib.hid (HX.out.past hb)
      replace HBT := Lib.hid (HBT.out.past hb)
      replace HKa := Lib.hid (HKa.out.below' hb)
      replace HKq := Lib.hid (HKq.out.below' hb)
      replace HKx := Lib.hid (HKx.out.below' hb)
      replace HKy := Lib.hid (HKy.out.below' hb)
      replace HKu := Lib.hid (HKu.out.below' hb)
      replace HKv := Lib.hid (HKv.out.below' hb)
      replace HB := Lib.hid (below_all HB.out hb)
      clear hb
      have k0_x := HKx.out.cell 0
      change _ = some (Value.int .i64 x.kind) at k0_x
      have k1_x := HKx.out.cell 1
      change _ = some (Value.int .i64 x.age) at k1_x
      have k2_x := HKx.out.cell 2
      change _ = some (Value.int .i64 x.years) at k2_x
      have k3_x := HKx.out.cell 3
      change _ = some (Value.int .i64 x.sum) at k3_x
      have k4_x := HKx.out.cell 4
      change _ = some (Value.int .i64 x.load) at k4_x
      have k0_y := HKy.out.cell 0
      change _ = some (Value.int .i64 y.kind) at k0_y
      have k1_y := HKy.out.cell 1
      change _ = some (Value.int .i64 y.age) at k1_y
      have k2_y := HKy.out.cell 2
      change _ = some (Value.int .i64 y.years) at k2_y
      have k3_y := HKy.out.cell 3
      change _ = some (Value.int .i64 y.sum) at k3_y
      have k4_y := HKy.out.cell 4
      change _ = some (Value.int .i64 y.load) at k4_y
      have k0_u := HKu.out.cell 0
      change _ = some (Value.int .i64 u.kind) at k0_u
      have k1_u := HKu.out.cell 1
      change _ = some (Value.int .i64 u.age) at k1_u
      have k2_u := HKu.out.cell 2
      change _ = some (Value.int .i64 u.years) at k2_u
      have k3_u := HKu.out.cell 3
      change _ = some (Value.int .i64 u.sum) at k3_u
      have k4_u := HKu.out.cell 4
      change _ = some (Value.int .i64 u.load) at k4_u
      have k0_v := HKv.out.cell 0
      change _ = some (Value.int .i64 u.kind) at k0_v
      have k1_v := HKv.out.cell 1
      change _ = some (Value.int .i64 u.age) at k1_v
      have k2_v := HKv.out.cell 2
      change _ = some (Value.int .i64 u.years) at k2_v
      have k3_v := HKv.out.cell 3
      change _ = some (Value.int .i64 u.sum) at k3_v
      have k4_v := HKv.out.cell 4
      change _ = some (Value.int .i64 u.load) at k4_v
      by_cases hbad : sumC b p prem = 0
      rotate_left
      · obtain ⟨z, hz⟩ : ∃ z, sumC b p prem = z := ⟨_, rfl⟩
        rw [hz] at hbad ⊢
        clear hz
        go_wp2
        go_ret
        exact ⟨rfl, HB.out⟩
      clear k0_x k1_x k2_x k3_x k4_x k0_y k1_y k2_y k3_y k4_y k0_u k1_u k2_u k3_u k4_u k0_v k1_v k2_v k3_v k4_v
      obtain ⟨hpb, ⟨hs0, hs1⟩, hown, hmore⟩ := sum_facts hbad
      rw [hbad]
      obtain ⟨s, hs⟩ : ∃ s, sumV b p prem = s := ⟨_, rfl⟩
      rw [hs] at hs0 hs1 hown hmore ⊢
      have HPB := Lib.hid hpb
      clear hbad hs hpb
      have k0_x := HKx.out.cell 0
      change _ = some (Value.int .i64 x.kind) at k0_x
      have k1_x := HKx.out.cell 1
      change _ = some (Value.int .i64 x.age) at k1_x
      have k2_x := HKx.out.cell 2
      change _ = some (Value.int .i64 x.years) at k2_x
      have k3_x := HKx.out.cell 3
      change _ = some (Value.int .i64 x.sum) at k3_x
      have k4_x := HKx.out.cell 4
      change _ = some (Value.int .i64 x.load) at k4_x
      have k0_y := HKy.out.cell 0
      change _ = some (Value.int .i64 y.kind) at k0_y
      have k1_y := HKy.out.cell 1
      change _ = some (Value.int .i64 y.age) at k1_y
      have k2_y := HKy.out.cell 2
      change _ = some (Value.int .i64 y.years) at k2_y
      have k3_y := HKy.out.cell 3
      change _ = some (Value.int .i64 y.sum) at k3_y
      have k4_y := HKy.out.cell 4
      change _ = some (Value.int .i64 y.load) at k4_y
      have k0_u := HKu.out.cell 0
      change _ = some (Value.int .i64 u.kind) at k0_u
      have k1_u := HKu.out.cell 1
      change _ = some (Value.int .i64 u.age) at k1_u
      have k2_u := HKu.out.cell 2
      change _ = some (Value.int .i64 u.years) at k2_u
      have k3_u := HKu.out.cell 3
      change _ = some (Value.int .i64 u.sum) at k3_u
      have k4_u := HKu.out.cell 4
      change _ = some (Value.int .i64 u.load) at k4_u
      have k0_v := HKv.out.cell 0
      change _ = some (Value.int .i64 u.kind) at k0_v
      have k1_v := HKv.out.cell 1
      change _ = some (Value.int .i64 u.age) at k1_v
      have k2_v := HKv.out.cell 2
      change _ = some (Value.int .i64 u.years) at k2_v
      have k3_v := HKv.out.cell 3
      change _ = some (Value.int .i64 u.sum) at k3_v
      have k4_v := HKv.out.cell 4
      change _ = some (Value.int .i64 u.load) at k4_v
      have k3_q := HKq.out.cell 3
      change _ = some (Value.int .i64 p.sum) at k3_q
      have z3_q := HKq.out.frozen 3
      go_upto_region 17 with (fail)
      clear k3_q z3_q
      clear k0_x k1_x k2_x k3_x k4_x k0_y k1_y k2_y k3_y k4_y k0_u k1_u k2_u k3_u k4_u k0_v k1_v k2_v k3_v k4_v
      have HKq2 : Hid (Blk (u10.setCell ⟨gq, 3, none⟩ (.int .i64 s)) gq 42 #[.int .i64 p.kind, .int .i64 p.age, .int .i64 p.years, .int .i64 s, .int .i64 p.load]) := Lib.hid (HKq.out.set_ 3 (.int .i64 s))
      have HKa2 := Lib.hid (HKa.out.far (p := ⟨gq, 3, none⟩) hgne (.int .i64 s))
      have HB2 := Lib.hid (HB.out.setCell (p := ⟨gq, 3, none⟩) HGQ.out (.int .i64 s))
      have HBT2 := Lib.hid (HBT.out.putFar (g := gq) 3 (.int .i64 s) HAQ.out)
      generalize u10.setCell ⟨gq, 3, none⟩ (.int .i64 s) = q1 at HKq2 HKa2 HB2 HBT2 ⊢
      clear HKq HKa HB HBT
      have HFS := Lib.hid (show (p.at_ s).fits from ⟨HFIT.out.1, HFIT.out.2.1, HFIT.out.2.2.1, by show In64 s; unfold In64; omega, HFIT.out.2.2.2.2⟩)
      have HP1 := Lib.hid (pol_at HPB.out hs0 hs1)
      have k0_a := HKa2.out.cell 0
      change _ = some (Value.int .i64 b.first) at k0_a
      have k1_a := HKa2.out.cell 1
      change _ = some (Value.slice A0 n0 c0) at k1_a
      have k2_a := HKa2.out.cell 2
      change _ = some (Value.int .i64 b.rate) at k2_a
      have k0_q := HKq2.out.cell 0
      change _ = some (Value.int .i64 p.kind) at k0_q
      have k1_q := HKq2.out.cell 1
      change _ = some (Value.int .i64 p.age) at k1_q
      have k2_q := HKq2.out.cell 2
      change _ = some (Value.int .i64 p.years) at k2_q
      have k3_q := HKq2.out.cell 3
      change _ = some (Value.int .i64 s) at k3_q
      have k4_q := HKq2.out.cell 4
      change _ = some (Value.int .i64 p.load) at k4_q
      go_wp2_with fail
      refine (impl_OfficePremium_any b A0 n0 c0 (p.at_ s) _ HBT2.out HFS.out).mono ?_
      rw [if_pos HP1.out, if_pos HP1.out]
      rintro e q2 ⟨rfl, hb⟩
      clear k0_a k1_a k2_a k0_q k1_q k2_q k3_q k4_q
      have HKq := Lib.hid (HKq2.out.below' hb); have HKa := Lib.hid (HKa2.out.below' hb); have HBT := Lib.hid (HBT2.out.past hb); have HB := Lib.hid (below_all HB2.out hb)
      clear hb HKq2 HKa2 HBT2 HB2
      obtain ⟨own, hown2⟩ : ∃ own, officeP b (p.at_ s) = own := ⟨_, rfl⟩
      rw [hown2] at hown ⊢
      clear hown2
      have hno : ¬ prem < own := by omega
      by_cases hmx : s = 100000000
      · clear hmore
        subst hmx
        go_wp2
        all_goals (go_ret; exact ⟨rfl, HB.out⟩)
      replace hmore := hmore hmx
      have hs2 : s + 1 ≤ 100000000 := by omega
      have hnd : (s == 100000000) = false := by simpa using hmx
      have k3_q := HKq.out.cell 3
      change _ = some (Value.int .i64 s) at k3_q
      have z3_q := HKq.out.frozen 3
      go_upto_region 23 with (fail)
      clear k3_q z3_q
      have HKq2 : Hid (Blk (q2.setCell ⟨gq, 3, none⟩ (.int .i64 (s + 1))) gq 42 #[.int .i64 p.kind, .int .i64 p.age, .int .i64 p.years, .int .i64 (s + 1), .int .i64 p.load]) := Lib.hid (HKq.out.set_ 3 (.int .i64 (s + 1)))
      have HKa2 := Lib.hid (HKa.out.far (p := ⟨gq, 3, none⟩) hgne (.int .i64 (s + 1)))
      have HB2 := Lib.hid (HB.out.setCell (p := ⟨gq, 3, none⟩) HGQ.out (.int .i64 (s + 1)))
      have HBT2 := Lib.hid (HBT.out.putFar (g := gq) 3 (.int .i64 (s + 1)) HAQ.out)
      generalize q2.setCell ⟨gq, 3, none⟩ (.int .i64 (s + 1)) = q3 at HKq2 HKa2 HB2 HBT2 ⊢
      clear HKq HKa HB HBT
      have HFS1 := Lib.hid (show (p.at_ (s + 1)).fits from ⟨HFIT.out.1, HFIT.out.2.1, HFIT.out.2.2.1, by show In64 (s + 1); unfold In64; omega, HFIT.out.2.2.2.2⟩)
      have HP2 := Lib.hid (pol_at HPB.out (show 1 ≤ s + 1 by omega) hs2)
      obtain ⟨s1, hse1⟩ : ∃ s1, s + 1 = s1 := ⟨_, rfl⟩
      rw [hse1] at hmore HKq2 HFS1 HP2 hs2 ⊢
      have k0_a := HKa2.out.cell 0
      change _ = some (Value.int .i64 b.first) at k0_a
      have k1_a := HKa2.out.cell 1
      change _ = some (Value.slice A0 n0 c0) at k1_a
      have k2_a := HKa2.out.cell 2
      change _ = some (Value.int .i64 b.rate) at k2_a
      have k0_q := HKq2.out.cell 0
      change _ = some (Value.int .i64 p.kind) at k0_q
      have k1_q := HKq2.out.cell 1
      change _ = some (Value.int .i64 p.age) at k1_q
      have k2_q := HKq2.out.cell 2
      change _ = some (Value.int .i64 p.years) at k2_q
      have k3_q := HKq2.out.cell 3
      change _ = some (Value.int .i64 s1) at k3_q
      have k4_q := HKq2.out.cell 4
      change _ = some (Value.int .i64 p.load) at k4_q
      clear hse1
      go_wp2_with fail
      refine (impl_OfficePremium_any b A0 n0 c0 (p.at_ s1) _ HBT2.out HFS1.out).mono ?_
      rw [if_pos HP2.out, if_pos HP2.out]
      rintro e q4 ⟨rfl, hb⟩
      clear k0_a k1_a k2_a k0_q k1_q k2_q k3_q k4_q
      have HB := Lib.hid (below_all HB2.out hb)
      clear hb HKq2 HKa2 HBT2 HB2
      obtain ⟨mr, hmr⟩ : ∃ mr, officeP b (p.at_ s1) = mr := ⟨_, rfl⟩
      rw [hmr] at hmore ⊢
      clear hmr
      go_wp2
      all_goals (go_ret; exact ⟨by first | rfl | simp [hmore], HB.out⟩)
    · skip
      have k0_x := HKx.out.cell 0
      change _ = some (Value.int .i64 x.kind) at k0_x
      have k1_x := HKx.out.cell 1
      change _ = some (Value.int .i64 x.age) at k1_x
      have k2_x := HKx.out.cell 2
      change _ = some (Value.int .i64 x.years) at k2_x
      have k3_x := HKx.out.cell 3
      change _ = some (Value.int .i64 x.sum) at k3_x
      have k4_x := HKx.out.cell 4
      change _ = some (Value.int .i64 x.load) at k4_x
      have k0_y := HKy.out.cell 0
      change _ = some (Value.int .i64 y.kind) at k0_y
      have k1_y := HKy.out.cell 1
      change _ = some (Value.int .i64 y.age) at k1_y
      have k2_y := HKy.out.cell 2
      change _ = some (Value.int .i64 y.years) at k2_y
      have k3_y := HKy.out.cell 3
      change _ = some (Value.int .i64 y.sum) at k3_y
      have k4_y := HKy.out.cell 4
      change _ = some (Value.int .i64 y.load) at k4_y
      have k0_u := HKu.out.cell 0
      change _ = some (Value.int .i64 u.kind) at k0_u
      have k1_u := HKu.out.cell 1
      change _ = some (Value.int .i64 u.age) at k1_u
      have k2_u := HKu.out.cell 2
      change _ = some (Value.int .i64 u.years) at k2_u
      have k3_u := HKu.out.cell 3
      change _ = some (Value.int .i64 u.sum) at k3_u
      have k4_u := HKu.out.cell 4
      change _ = some (Value.int .i64 u.load) at k4_u
      have k0_v := HKv.out.cell 0
      change _ = some (Value.int .i64 u.kind) at k0_v
      have k1_v := HKv.out.cell 1
      change _ = some (Value.int .i64 u.age) at k1_v
      have k2_v := HKv.out.cell 2
      change _ = some (Value.int .i64 u.years) at k2_v
      have k3_v := HKv.out.cell 3
      change _ = some (Value.int .i64 u.sum) at k3_v
      have k4_v := HKv.out.cell 4
      change _ = some (Value.int .i64 u.load) at k4_v
      go_wp2_with fail
      refine (spec_PolicyText_any x _).mono ?_
      rw [HST.out]
      rintro e u10 ⟨rfl, hb⟩
      clear k0_x k1_x k2_x k3_x k4_x k0_y k1_y k2_y k3_y k4_y k0_u k1_u k2_u k3_u k4_u k0_v k1_v k2_v k3_v k4_v
      replace HX := Lib.hid (HX.out.past hb)
      replace HBT := Lib.hid (HBT.out.past hb)
      replace HKa := Lib.hid (HKa.out.below' hb)
      replace HKq := Lib.hid (HKq.out.below' hb)
      replace HKx := Lib.hid (HKx.out.below' hb)
      replace HKy := Lib.hid (HKy.out.below' hb)
      replace HKu := Lib.hid (HKu.out.below' hb)
      replace HKv := Lib.hid (HKv.out.below' hb)
      replace HB := Lib.hid (below_all HB.out hb)
      clear hb
      have k0_x := HKx.out.cell 0
      change _ = some (Value.int .i64 x.kind) at k0_x
      have k1_x := HKx.out.cell 1
      change _ = some (Value.int .i64 x.age) at k1_x
      have k2_x := HKx.out.cell 2
      change _ = some (Value.int .i64 x.years) at k2_x
      have k3_x := HKx.out.cell 3
      change _ = some (Value.int .i64 x.sum) at k3_x
      have k4_x := HKx.out.cell 4
      change _ = some (Value.int .i64 x.load) at k4_x
      have k0_y := HKy.out.cell 0
      change _ = some (Value.int .i64 y.kind) at k0_y
      have k1_y := HKy.out.cell 1
      change _ = some (Value.int .i64 y.age) at k1_y
      have k2_y := HKy.out.cell 2
      change _ = some (Value.int .i64 y.years) at k2_y
      have k3_y := HKy.out.cell 3
      change _ = some (Value.int .i64 y.sum) at k3_y
      have k4_y := HKy.out.cell 4
      change _ = some (Value.int .i64 y.load) at k4_y
      have k0_u := HKu.out.cell 0
      change _ = some (Value.int .i64 u.kind) at k0_u
      have k1_u := HKu.out.cell 1
      change _ = some (Value.int .i64 u.age) at k1_u
      have k2_u := HKu.out.cell 2
      change _ = some (Value.int .i64 u.years) at k2_u
      have k3_u := HKu.out.cell 3
      change _ = some (Value.int .i64 u.sum) at k3_u
      have k4_u := HKu.out.cell 4
      change _ = some (Value.int .i64 u.load) at k4_u
      have k0_v := HKv.out.cell 0
      change _ = some (Value.int .i64 u.kind) at k0_v
      have k1_v := HKv.out.cell 1
      change _ = some (Value.int .i64 u.age) at k1_v
      have k2_v := HKv.out.cell 2
      change _ = some (Value.int .i64 u.years) at k2_v
      have k3_v := HKv.out.cell 3
      change _ = some (Value.int .i64 u.sum) at k3_v
      have k4_v := HKv.out.cell 4
      change _ = some (Value.int .i64 u.load) at k4_v
      go_wp2_with fail
      refine (impl_PolicyText_any u _ (HEnv.out.past HB.out)).mono ?_
      rw [HTX.out (by simp)]
      rintro e u11 ⟨rfl, hb⟩
      clear k0_x k1_x k2_x k3_x k4_x k0_y k1_y k2_y k3_y k4_y k0_u k1_u k2_u k3_u k4_u k0_v k1_v k2_v k3_v k4_v
      replace HX := Lib.hid (HX.out.past hb)
      replace HBT := Lib.hid (HBT.out.past hb)
      replace HKa := Lib.hid (HKa.out.below' hb)
      replace HKq := Lib.hid (HKq.out.below' hb)
      replace HKx := Lib.hid (HKx.out.below' hb)
      replace HKy := Lib.hid (HKy.out.below' hb)
      replace HKu := Lib.hid (HKu.out.below' hb)
      replace HKv := Lib.hid (HKv.out.below' hb)
      replace HB := Lib.hid (below_all HB.out hb)
      clear hb
      by_cases hbad : sumC b p prem = 0
      rotate_left
      · obtain ⟨z, hz⟩ : ∃ z, sumC b p prem = z := ⟨_, rfl⟩
        rw [hz] at hbad ⊢
        clear hz
        go_wp2
        go_ret
        exact ⟨rfl, HB.out⟩
      obtain ⟨hpb, ⟨hs0, hs1⟩, hown, hmore⟩ := sum_facts hbad
      rw [hbad]
      obtain ⟨s, hs⟩ : ∃ s, sumV b p prem = s := ⟨_, rfl⟩
      rw [hs] at hs0 hs1 hown hmore ⊢
      have HPB := Lib.hid hpb
      clear hbad hs hpb
      have k0_x := HKx.out.cell 0
      change _ = some (Value.int .i64 x.kind) at k0_x
      have k1_x := HKx.out.cell 1
      change _ = some (Value.int .i64 x.age) at k1_x
      have k2_x := HKx.out.cell 2
      change _ = some (Value.int .i64 x.years) at k2_x
      have k3_x := HKx.out.cell 3
      change _ = some (Value.int .i64 x.sum) at k3_x
      have k4_x := HKx.out.cell 4
      change _ = some (Value.int .i64 x.load) at k4_x
      have k0_y := HKy.out.cell 0
      change _ = some (Value.int .i64 y.kind) at k0_y
      have k1_y := HKy.out.cell 1
      change _ = some (Value.int .i64 y.age) at k1_y
      have k2_y := HKy.out.cell 2
      change _ = some (Value.int .i64 y.years) at k2_y
      have k3_y := HKy.out.cell 3
      change _ = some (Value.int .i64 y.sum) at k3_y
      have k4_y := HKy.out.cell 4
      change _ = some (Value.int .i64 y.load) at k4_y
      have k0_u := HKu.out.cell 0
      change _ = some (Value.int .i64 u.kind) at k0_u
      have k1_u := HKu.out.cell 1
      change _ = some (Value.int .i64 u.age) at k1_u
      have k2_u := HKu.out.cell 2
      change _ = some (Value.int .i64 u.years) at k2_u
      have k3_u := HKu.out.cell 3
      change _ = some (Value.int .i64 u.sum) at k3_u
      have k4_u := HKu.out.cell 4
      change _ = some (Value.int .i64 u.load) at k4_u
      have k0_v := HKv.out.cell 0
      change _ = some (Value.int .i64 u.kind) at k0_v
      have k1_v := HKv.out.cell 1
      change _ = some (Value.int .i64 u.age) at k1_v
      have k2_v := HKv.out.cell 2
      change _ = some (Value.int .i64 u.years) at k2_v
      have k3_v := HKv.out.cell 3
      change _ = some (Value.int .i64 u.sum) at k3_v
      have k4_v := HKv.out.cell 4
      change _ = some (Value.int .i64 u.load) at k4_v
      have k3_q := HKq.out.cell 3
      change _ = some (Value.int .i64 p.sum) at k3_q
      have z3_q := HKq.out.frozen 3
      go_upto_region 17 with (fail)
      clear k3_q z3_q
      clear k0_x k1_x k2_x k3_x k4_x k0_y k1_y k2_y k3_y k4_y k0_u k1_u k2_u k3_u k4_u k0_v k1_v k2_v k3_v k4_v
      have HKq2 : Hid (Blk (u11.setCell ⟨gq, 3, none⟩ (.int .i64 s)) gq 42 #[.int .i64 p.kind, .int .i64 p.age, .int .i64 p.years, .int .i64 s, .int .i64 p.load]) := Lib.hid (HKq.out.set_ 3 (.int .i64 s))
      have HKa2 := Lib.hid (HKa.out.far (p := ⟨gq, 3, none⟩) hgne (.int .i64 s))
      have HB2 := Lib.hid (HB.out.setCell (p := ⟨gq, 3, none⟩) HGQ.out (.int .i64 s))
      have HBT2 := Lib.hid (HBT.out.putFar (g := gq) 3 (.int .i64 s) HAQ.out)
      generalize u11.setCell ⟨gq, 3, none⟩ (.int .i64 s) = q1 at HKq2 HKa2 HB2 HBT2 ⊢
      clear HKq HKa HB HBT
      have HFS := Lib.hid (show (p.at_ s).fits from ⟨HFIT.out.1, HFIT.out.2.1, HFIT.out.2.2.1, by show In64 s; unfold In64; omega, HFIT.out.2.2.2.2⟩)
      have HP1 := Lib.hid (pol_at HPB.out hs0 hs1)
      have k0_a := HKa2.out.cell 0
      change _ = some (Value.int .i64 b.first) at k0_a
      have k1_a := HKa2.out.cell 1
      change _ = some (Value.slice A0 n0 c0) at k1_a
      have k2_a := HKa2.out.cell 2
      change _ = some (Value.int .i64 b.rate) at k2_a
      have k0_q := HKq2.out.cell 0
      change _ = some (Value.int .i64 p.kind) at k0_q
      have k1_q := HKq2.out.cell 1
      change _ = some (Value.int .i64 p.age) at k1_q
      have k2_q := HKq2.out.cell 2
      change _ = some (Value.int .i64 p.years) at k2_q
      have k3_q := HKq2.out.cell 3
      change _ = some (Value.int .i64 s) at k3_q
      have k4_q := HKq2.out.cell 4
      change _ = some (Value.int .i64 p.load) at k4_q
      go_wp2_with fail
      refine (impl_OfficePremium_any b A0 n0 c0 (p.at_ s) _ HBT2.out HFS.out).mono ?_
      rw [if_pos HP1.out, if_pos HP1.out]
      rintro e q2 ⟨rfl, hb⟩
      clear k0_a k1_a k2_a k0_q k1_q k2_q k3_q k4_q
      have HKq := Lib.hid (HKq2.out.below' hb); have HKa := Lib.hid (HKa2.out.below' hb); have HBT := Lib.hid (HBT2.out.past hb); have HB := Lib.hid (below_all HB2.out hb)
      clear hb HKq2 HKa2 HBT2 HB2
      obtain ⟨own, hown2⟩ : ∃ own, officeP b (p.at_ s) = own := ⟨_, rfl⟩
      rw [hown2] at hown ⊢
      clear hown2
      have hno : ¬ prem < own := by omega
      by_cases hmx : s = 100000000
      · clear hmore
        subst hmx
        go_wp2
        all_goals (go_ret; exact ⟨rfl, HB.out⟩)
      replace hmore := hmore hmx
      have hs2 : s + 1 ≤ 100000000 := by omega
      have hnd : (s == 100000000) = false := by simpa using hmx
      have k3_q := HKq.out.cell 3
      change _ = some (Value.int .i64 s) at k3_q
      have z3_q := HKq.out.frozen 3
      go_upto_region 23 with (fail)
      clear k3_q z3_q
      have HKq2 : Hid (Blk (q2.setCell ⟨gq, 3, none⟩ (.int .i64 (s + 1))) gq 42 #[.int .i64 p.kind, .int .i64 p.age, .int .i64 p.years, .int .i64 (s + 1), .int .i64 p.load]) := Lib.hid (HKq.out.set_ 3 (.int .i64 (s + 1)))
      have HKa2 := Lib.hid (HKa.out.far (p := ⟨gq, 3, none⟩) hgne (.int .i64 (s + 1)))
      have HB2 := Lib.hid (HB.out.setCell (p := ⟨gq, 3, none⟩) HGQ.out (.int .i64 (s + 1)))
      have HBT2 := Lib.hid (HBT.out.putFar (g := gq) 3 (.int .i64 (s + 1)) HAQ.out)
      generalize q2.setCell ⟨gq, 3, none⟩ (.int .i64 (s + 1)) = q3 at HKq2 HKa2 HB2 HBT2 ⊢
      clear HKq HKa HB HBT
      have HFS1 := Lib.hid (show (p.at_ (s + 1)).fits from ⟨HFIT.out.1, HFIT.out.2.1, HFIT.out.2.2.1, by show In64 (s + 1); unfold In64; omega, HFIT.out.2.2.2.2⟩)
      have HP2 := Lib.hid (pol_at HPB.out (show 1 ≤ s + 1 by omega) hs2)
      obtain ⟨s1, hse1⟩ : ∃ s1, s + 1 = s1 := ⟨_, rfl⟩
      rw [hse1] at hmore HKq2 HFS1 HP2 hs2 ⊢
      have k0_a := HKa2.out.cell 0
      change _ = some (Value.int .i64 b.first) at k0_a
      have k1_a := HKa2.out.cell 1
      change _ = some (Value.slice A0 n0 c0) at k1_a
      have k2_a := HKa2.out.cell 2
      change _ = some (Value.int .i64 b.rate) at k2_a
      have k0_q := HKq2.out.cell 0
      change _ = some (Value.int .i64 p.kind) at k0_q
      have k1_q := HKq2.out.cell 1
      change _ = some (Value.int .i64 p.age) at k1_q
      have k2_q := HKq2.out.cell 2
      change _ = some (Value.int .i64 p.years) at k2_q
      have k3_q := HKq2.out.cell 3
      change _ = some (Value.int .i64 s1) at k3_q
      have k4_q := HKq2.out.cell 4
      change _ = some (Value.int .i64 p.load) at k4_q
      clear hse1
      go_wp2_with fail
      refine (impl_OfficePremium_any b A0 n0 c0 (p.at_ s1) _ HBT2.out HFS1.out).mono ?_
      rw [if_pos HP2.out, if_pos HP2.out]
      rintro e q4 ⟨rfl, hb⟩
      clear k0_a k1_a k2_a k0_q k1_q k2_q k3_q k4_q
      have HB := Lib.hid (below_all HB2.out hb)
      clear hb HKq2 HKa2 HBT2 HB2
      obtain ⟨mr, hmr⟩ : ∃ mr, officeP b (p.at_ s1) = mr := ⟨_, rfl⟩
      rw [hmr] at hmore ⊢
      clear hmr
      go_wp2
      all_goals (go_ret; exact ⟨by first | rfl | simp [hmore], HB.out⟩)
  · have HSE := Lib.hid (show st = S (intsL 44 x.nums) from by rw [← HST.out, polT_yes htb])
    have h10 : y = x ∧ b1 = true := HU1.out x htb (by rw [HSE.out, S_list])
    obtain ⟨hyx, hb10⟩ := h10
    subst hyx
    subst hb10
    have hse : st.toList.isEmpty = false := by rw [HSE.out]; exact isEmptyS2 (intsL_ne _ _ _)
    cases b2
    · skip
      have k0_x := HKx.out.cell 0
      change _ = some (Value.int .i64 y.kind) at k0_x
      have k1_x := HKx.out.cell 1
      change _ = some (Value.int .i64 y.age) at k1_x
      have k2_x := HKx.out.cell 2
      change _ = some (Value.int .i64 y.years) at k2_x
      have k3_x := HKx.out.cell 3
      change _ = some (Value.int .i64 y.sum) at k3_x
      have k4_x := HKx.out.cell 4
      change _ = some (Value.int .i64 y.load) at k4_x
      have k0_y := HKy.out.cell 0
      change _ = some (Value.int .i64 y.kind) at k0_y
      have k1_y := HKy.out.cell 1
      change _ = some (Value.int .i64 y.age) at k1_y
      have k2_y := HKy.out.cell 2
      change _ = some (Value.int .i64 y.years) at k2_y
      have k3_y := HKy.out.cell 3
      change _ = some (Value.int .i64 y.sum) at k3_y
      have k4_y := HKy.out.cell 4
      change _ = some (Value.int .i64 y.load) at k4_y
      have k0_u := HKu.out.cell 0
      change _ = some (Value.int .i64 u.kind) at k0_u
      have k1_u := HKu.out.cell 1
      change _ = some (Value.int .i64 u.age) at k1_u
      have k2_u := HKu.out.cell 2
      change _ = some (Value.int .i64 u.years) at k2_u
      have k3_u := HKu.out.cell 3
      change _ = some (Value.int .i64 u.sum) at k3_u
      have k4_u := HKu.out.cell 4
      change _ = some (Value.int .i64 u.load) at k4_u
      have k0_v := HKv.out.cell 0
      change _ = some (Value.int .i64 u.kind) at k0_v
      have k1_v := HKv.out.cell 1
      change _ = some (Value.int .i64 u.age) at k1_v
      have k2_v := HKv.out.cell 2
      change _ = some (Value.int .i64 u.years) at k2_v
      have k3_v := HKv.out.cell 3
      change _ = some (Value.int .i64 u.sum) at k3_v
      have k4_v := HKv.out.cell 4
      change _ = some (Value.int .i64 u.load) at k4_v
      go_wp2_with fail
      refine (spec_PolicyText_any y _).mono ?_
      rw [HST.out]
      rintro e u10 ⟨rfl, hb⟩
      clear k0_x k1_x k2_x k3_x k4_x k0_y k1_y k2_y k3_y k4_y k0_u k1_u k2_u k3_u k4_u k0_v k1_v k2_v k3_v k4_v
      replace HX := Lib.hid (HX.out.past hb)
      replace HBT := Lib.hid (HBT.out.past hb)
      replace HKa := Lib.hid (HKa.out.below' hb)
      replace HKq := Lib.hid (HKq.out.below' hb)
      replace HKx := Lib.hid (HKx.out.below' hb)
      replace HKy := Lib.hid (HKy.out.below' hb)
      replace HKu := Lib.hid (HKu.out.below' hb)
      replace HKv := Lib.hid (HKv.out.below' hb)
      replace HB := Lib.hid (below_all HB.out hb)
      clear hb
      have k0_x := HKx.out.cell 0
      change _ = some (Value.int .i64 y.kind) at k0_x
      have k1_x := HKx.out.cell 1
      change _ = some (Value.int .i64 y.age) at k1_x
      have k2_x := HKx.out.cell 2
      change _ = some (Value.int .i64 y.years) at k2_x
      have k3_x := HKx.out.cell 3
      change _ = some (Value.int .i64 y.sum) at k3_x
      have k4_x := HKx.out.cell 4
      change _ = some (Value.int .i64 y.load) at k4_x
      have k0_y := HKy.out.cell 0
      change _ = some (Value.int .i64 y.kind) at k0_y
      have k1_y := HKy.out.cell 1
      change _ = some (Value.int .i64 y.age) at k1_y
      have k2_y := HKy.out.cell 2
      change _ = some (Value.int .i64 y.years) at k2_y
      have k3_y := HKy.out.cell 3
      change _ = some (Value.int .i64 y.sum) at k3_y
      have k4_y := HKy.out.cell 4
      change _ = some (Value.int .i64 y.load) at k4_y
      have k0_u := HKu.out.cell 0
      change _ = some (Value.int .i64 u.kind) at k0_u
      have k1_u := HKu.out.cell 1
      change _ = some (Value.int .i64 u.age) at k1_u
      have k2_u := HKu.out.cell 2
      change _ = some (Value.int .i64 u.years) at k2_u
      have k3_u := HKu.out.cell 3
      change _ = some (Value.int .i64 u.sum) at k3_u
      have k4_u := HKu.out.cell 4
      change _ = some (Value.int .i64 u.load) at k4_u
      have k0_v := HKv.out.cell 0
      change _ = some (Value.int .i64 u.kind) at k0_v
      have k1_v := HKv.out.cell 1
      change _ = some (Value.int .i64 u.age) at k1_v
      have k2_v := HKv.out.cell 2
      change _ = some (Value.int .i64 u.years) at k2_v
      have k3_v := HKv.out.cell 3
      change _ = some (Value.int .i64 u.sum) at k3_v
      have k4_v := HKv.out.cell 4
      change _ = some (Value.int .i64 u.load) at k4_v
      by_cases hbad : sumC b p prem = 0
      rotate_left
      · obtain ⟨z, hz⟩ : ∃ z, sumC b p prem = z := ⟨_, rfl⟩
        rw [hz] at hbad ⊢
        clear hz
        go_wp2
        go_ret
        exact ⟨rfl, HB.out⟩
      clear k0_x k1_x k2_x k3_x k4_x k0_y k1_y k2_y k3_y k4_y k0_u k1_u k2_u k3_u k4_u k0_v k1_v k2_v k3_v k4_v
      obtain ⟨hpb, ⟨hs0, hs1⟩, hown, hmore⟩ := sum_facts hbad
      rw [hbad]
      obtain ⟨s, hs⟩ : ∃ s, sumV b p prem = s := ⟨_, rfl⟩
      rw [hs] at hs0 hs1 hown hmore ⊢
      have HPB := Lib.hid hpb
      clear hbad hs hpb
      have k0_x := HKx.out.cell 0
      change _ = some (Value.int .i64 y.kind) at k0_x
      have k1_x := HKx.out.cell 1
      change _ = some (Value.int .i64 y.age) at k1_x
      have k2_x := HKx.out.cell 2
      change _ = some (Value.int .i64 y.years) at k2_x
      have k3_x := HKx.out.cell 3
      change _ = some (Value.int .i64 y.sum) at k3_x
      have k4_x := HKx.out.cell 4
      change _ = some (Value.int .i64 y.load) at k4_x
      have k0_y := HKy.out.cell 0
      change _ = some (Value.int .i64 y.kind) at k0_y
      have k1_y := HKy.out.cell 1
      change _ = some (Value.int .i64 y.age) at k1_y
      have k2_y := HKy.out.cell 2
      change _ = some (Value.int .i64 y.years) at k2_y
      have k3_y := HKy.out.cell 3
      change _ = some (Value.int .i64 y.sum) at k3_y
      have k4_y := HKy.out.cell 4
      change _ = some (Value.int .i64 y.load) at k4_y
      have k0_u := HKu.out.cell 0
      change _ = some (Value.int .i64 u.kind) at k0_u
      have k1_u := HKu.out.cell 1
      change _ = some (Value.int .i64 u.age) at k1_u
      have k2_u := HKu.out.cell 2
      change _ = some (Value.int .i64 u.years) at k2_u
      have k3_u := HKu.out.cell 3
      change _ = some (Value.int .i64 u.sum) at k3_u
      have k4_u := HKu.out.cell 4
      change _ = some (Value.int .i64 u.load) at k4_u
      have k0_v := HKv.out.cell 0
      change _ = some (Value.int .i64 u.kind) at k0_v
      have k1_v := HKv.out.cell 1
      change _ = some (Value.int .i64 u.age) at k1_v
      have k2_v := HKv.out.cell 2
      change _ = some (Value.int .i64 u.years) at k2_v
      have k3_v := HKv.out.cell 3
      change _ = some (Value.int .i64 u.sum) at k3_v
      have k4_v := HKv.out.cell 4
      change _ = some (Value.int .i64 u.load) at k4_v
      have k3_q := HKq.out.cell 3
      change _ = some (Value.int .i64 p.sum) at k3_q
      have z3_q := HKq.out.frozen 3
      go_upto_region 17 with (fail)
      clear k3_q z3_q
      clear k0_x k1_x k2_x k3_x k4_x k0_y k1_y k2_y k3_y k4_y k0_u k1_u k2_u k3_u k4_u k0_v k1_v k2_v k3_v k4_v
      have HKq2 : Hid (Blk (u10.setCell ⟨gq, 3, none⟩ (.int .i64 s)) gq 42 #[.int .i64 p.kind, .int .i64 p.age, .int .i64 p.years, .int .i64 s, .int .i64 p.load]) := Lib.hid (HKq.out.set_ 3 (.int .i64 s))
      have HKa2 := Lib.hid (HKa.out.far (p := ⟨gq, 3, none⟩) hgne (.int .i64 s))
      have HB2 := Lib.hid (HB.out.setCell (p := ⟨gq, 3, none⟩) HGQ.out (.int .i64 s))
      have HBT2 := Lib.hid (HBT.out.putFar (g := gq) 3 (.int .i64 s) HAQ.out)
      generalize u10.setCell ⟨gq, 3, none⟩ (.int .i64 s) = q1 at HKq2 HKa2 HB2 HBT2 ⊢
      clear HKq HKa HB HBT
      have HFS := Lib.hid (show (p.at_ s).fits from ⟨HFIT.out.1, HFIT.out.2.1, HFIT.out.2.2.1, by show In64 s; unfold In64; omega, HFIT.out.2.2.2.2⟩)
      have HP1 := Lib.hid (pol_at HPB.out hs0 hs1)
      have k0_a := HKa2.out.cell 0
      change _ = some (Value.int .i64 b.first) at k0_a
      have k1_a := HKa2.out.cell 1
      change _ = some (Value.slice A0 n0 c0) at k1_a
      have k2_a := HKa2.out.cell 2
      change _ = some (Value.int .i64 b.rate) at k2_a
      have k0_q := HKq2.out.cell 0
      change _ = some (Value.int .i64 p.kind) at k0_q
      have k1_q := HKq2.out.cell 1
      change _ = some (Value.int .i64 p.age) at k1_q
      have k2_q := HKq2.out.cell 2
      change _ = some (Value.int .i64 p.years) at k2_q
      have k3_q := HKq2.out.cell 3
      change _ = some (Value.int .i64 s) at k3_q
      have k4_q := HKq2.out.cell 4
      change _ = some (Value.int .i64 p.load) at k4_q
      go_wp2_with fail
      refine (impl_OfficePremium_any b A0 n0 c0 (p.at_ s) _ HBT2.out HFS.out).mono ?_
      rw [if_pos HP1.out, if_pos HP1.out]
      rintro e q2 ⟨rfl, hb⟩
      clear k0_a k1_a k2_a k0_q k1_q k2_q k3_q k4_q
      have HKq := Lib.hid (HKq2.out.below' hb); have HKa := Lib.hid (HKa2.out.below' hb); have HBT := Lib.hid (HBT2.out.past hb); have HB := Lib.hid (below_all HB2.out hb)
      clear hb HKq2 HKa2 HBT2 HB2
      obtain ⟨own, hown2⟩ : ∃ own, officeP b (p.at_ s) = own := ⟨_, rfl⟩
      rw [hown2] at hown ⊢
      clear hown2
      have hno : ¬ prem < own := by omega
      by_cases hmx : s = 100000000
      · clear hmore
        subst hmx
        go_wp2
        all_goals (go_ret; exact ⟨rfl, HB.out⟩)
      replace hmore := hmore hmx
      have hs2 : s + 1 ≤ 100000000 := by omega
      have hnd : (s == 100000000) = false := by simpa using hmx
      have k3_q := HKq.out.cell 3
      change _ = some (Value.int .i64 s) at k3_q
      have z3_q := HKq.out.frozen 3
      go_upto_region 23 with (fail)
      clear k3_q z3_q
      have HKq2 : Hid (Blk (q2.setCell ⟨gq, 3, none⟩ (.int .i64 (s + 1))) gq 42 #[.int .i64 p.kind, .int .i64 p.age, .int .i64 p.years, .int .i64 (s + 1), .int .i64 p.load]) := Lib.hid (HKq.out.set_ 3 (.int .i64 (s + 1)))
      have HKa2 := Lib.hid (HKa.out.far (p := ⟨gq, 3, none⟩) hgne (.int .i64 (s + 1)))
      have HB2 := Lib.hid (HB.out.setCell (p := ⟨gq, 3, none⟩) HGQ.out (.int .i64 (s + 1)))
      have HBT2 := Lib.hid (HBT.out.putFar (g := gq) 3 (.int .i64 (s + 1)) HAQ.out)
      generalize q2.setCell ⟨gq, 3, none⟩ (.int .i64 (s + 1)) = q3 at HKq2 HKa2 HB2 HBT2 ⊢
      clear HKq HKa HB HBT
      have HFS1 := Lib.hid (show (p.at_ (s + 1)).fits from ⟨HFIT.out.1, HFIT.out.2.1, HFIT.out.2.2.1, by show In64 (s + 1); unfold In64; omega, HFIT.out.2.2.2.2⟩)
      have HP2 := Lib.hid (pol_at HPB.out (show 1 ≤ s + 1 by omega) hs2)
      obtain ⟨s1, hse1⟩ : ∃ s1, s + 1 = s1 := ⟨_, rfl⟩
      rw [hse1] at hmore HKq2 HFS1 HP2 hs2 ⊢
      have k0_a := HKa2.out.cell 0
      change _ = some (Value.int .i64 b.first) at k0_a
      have k1_a := HKa2.out.cell 1
      change _ = some (Value.slice A0 n0 c0) at k1_a
      have k2_a := HKa2.out.cell 2
      change _ = some (Value.int .i64 b.rate) at k2_a
      have k0_q := HKq2.out.cell 0
      change _ = some (Value.int .i64 p.kind) at k0_q
      have k1_q := HKq2.out.cell 1
      change _ = some (Value.int .i64 p.age) at k1_q
      have k2_q := HKq2.out.cell 2
      change _ = some (Value.int .i64 p.years) at k2_q
      have k3_q := HKq2.out.cell 3
      change _ = some (Value.int .i64 s1) at k3_q
      have k4_q := HKq2.out.cell 4
      change _ = some (Value.int .i64 p.load) at k4_q
      clear hse1
      go_wp2_with fail
      refine (impl_OfficePremium_any b A0 n0 c0 (p.at_ s1) _ HBT2.out HFS1.out).mono ?_
      rw [if_pos HP2.out, if_pos HP2.out]
      rintro e q4 ⟨rfl, hb⟩
      clear k0_a k1_a k2_a k0_q k1_q k2_q k3_q k4_q
      have HB := Lib.hid (below_all HB2.out hb)
      clear hb HKq2 HKa2 HBT2 HB2
      obtain ⟨mr, hmr⟩ : ∃ mr, officeP b (p.at_ s1) = mr := ⟨_, rfl⟩
      rw [hmr] at hmore ⊢
      clear hmr
      go_wp2
      all_goals (go_ret; exact ⟨by first | rfl | simp [hmore], HB.out⟩)
    · skip
      have k0_x := HKx.out.cell 0
      change _ = some (Value.int .i64 y.kind) at k0_x
      have k1_x := HKx.out.cell 1
      change _ = some (Value.int .i64 y.age) at k1_x
      have k2_x := HKx.out.cell 2
      change _ = some (Value.int .i64 y.years) at k2_x
      have k3_x := HKx.out.cell 3
      change _ = some (Value.int .i64 y.sum) at k3_x
      have k4_x := HKx.out.cell 4
      change _ = some (Value.int .i64 y.load) at k4_x
      have k0_y := HKy.out.cell 0
      change _ = some (Value.int .i64 y.kind) at k0_y
      have k1_y := HKy.out.cell 1
      change _ = some (Value.int .i64 y.age) at k1_y
      have k2_y := HKy.out.cell 2
      change _ = some (Value.int .i64 y.years) at k2_y
      have k3_y := HKy.out.cell 3
      change _ = some (Value.int .i64 y.sum) at k3_y
      have k4_y := HKy.out.cell 4
      change _ = some (Value.int .i64 y.load) at k4_y
      have k0_u := HKu.out.cell 0
      change _ = some (Value.int .i64 u.kind) at k0_u
      have k1_u := HKu.out.cell 1
      change _ = some (Value.int .i64 u.age) at k1_u
      have k2_u := HKu.out.cell 2
      change _ = some (Value.int .i64 u.years) at k2_u
      have k3_u := HKu.out.cell 3
      change _ = some (Value.int .i64 u.sum) at k3_u
      have k4_u := HKu.out.cell 4
      change _ = some (Value.int .i64 u.load) at k4_u
      have k0_v := HKv.out.cell 0
      change _ = some (Value.int .i64 u.kind) at k0_v
      have k1_v := HKv.out.cell 1
      change _ = some (Value.int .i64 u.age) at k1_v
      have k2_v := HKv.out.cell 2
      change _ = some (Value.int .i64 u.years) at k2_v
      have k3_v := HKv.out.cell 3
      change _ = some (Value.int .i64 u.sum) at k3_v
      have k4_v := HKv.out.cell 4
      change _ = some (Value.int .i64 u.load) at k4_v
      go_wp2_with fail
      refine (spec_PolicyText_any y _).mono ?_
      rw [HST.out]
      rintro e u10 ⟨rfl, hb⟩
      clear k0_x k1_x k2_x k3_x k4_x k0_y k1_y k2_y k3_y k4_y k0_u k1_u k2_u k3_u k4_u k0_v k1_v k2_v k3_v k4_v
      replace HX := Lib.hid (HX.out.past hb)
      replace HBT := Lib.hid (HBT.out.past hb)
      replace HKa := Lib.hid (HKa.out.below' hb)
      replace HKq := Lib.hid (HKq.out.below' hb)
      replace HKx := Lib.hid (HKx.out.below' hb)
      replace HKy := Lib.hid (HKy.out.below' hb)
      replace HKu := Lib.hid (HKu.out.below' hb)
      replace HKv := Lib.hid (HKv.out.below' hb)
      replace HB := Lib.hid (below_all HB.out hb)
      clear hb
      have k0_x := HKx.out.cell 0
      change _ = some (Value.int .i64 y.kind) at k0_x
      have k1_x := HKx.out.cell 1
      change _ = some (Value.int .i64 y.age) at k1_x
      have k2_x := HKx.out.cell 2
      change _ = some (Value.int .i64 y.years) at k2_x
      have k3_x := HKx.out.cell 3
      change _ = some (Value.int .i64 y.sum) at k3_x
      have k4_x := HKx.out.cell 4
      change _ = some (Value.int .i64 y.load) at k4_x
      have k0_y := HKy.out.cell 0
      change _ = some (Value.int .i64 y.kind) at k0_y
      have k1_y := HKy.out.cell 1
      change _ = some (Value.int .i64 y.age) at k1_y
      have k2_y := HKy.out.cell 2
      change _ = some (Value.int .i64 y.years) at k2_y
      have k3_y := HKy.out.cell 3
      change _ = some (Value.int .i64 y.sum) at k3_y
      have k4_y := HKy.out.cell 4
      change _ = some (Value.int .i64 y.load) at k4_y
      have k0_u := HKu.out.cell 0
      change _ = some (Value.int .i64 u.kind) at k0_u
      have k1_u := HKu.out.cell 1
      change _ = some (Value.int .i64 u.age) at k1_u
      have k2_u := HKu.out.cell 2
      change _ = some (Value.int .i64 u.years) at k2_u
      have k3_u := HKu.out.cell 3
      change _ = some (Value.int .i64 u.sum) at k3_u
      have k4_u := HKu.out.cell 4
      change _ = some (Value.int .i64 u.load) at k4_u
      have k0_v := HKv.out.cell 0
      change _ = some (Value.int .i64 u.kind) at k0_v
      have k1_v := HKv.out.cell 1
      change _ = some (Value.int .i64 u.age) at k1_v
      have k2_v := HKv.out.cell 2
      change _ = some (Value.int .i64 u.years) at k2_v
      have k3_v := HKv.out.cell 3
      change _ = some (Value.int .i64 u.sum) at k3_v
      have k4_v := HKv.out.cell 4
      change _ = some (Value.int .i64 u.load) at k4_v
      go_wp2_with fail
      refine (impl_PolicyText_any u _ (HEnv.out.past HB.out)).mono ?_
      rw [HTX.out (by simp)]
      rintro e u11 ⟨rfl, hb⟩
      clear k0_x k1_x k2_x k3_x k4_x k0_y k1_y k2_y k3_y k4_y k0_u k1_u k2_u k3_u k4_u k0_v k1_v k2_v k3_v k4_v
      replace HX := Lib.hid (HX.out.past hb)
      replace HBT := Lib.hid (HBT.out.past hb)
      replace HKa := Lib.hid (HKa.out.below' hb)
      replace HKq := Lib.hid (HKq.out.below' hb)
      replace HKx := Lib.hid (HKx.out.below' hb)
      replace HKy := Lib.hid (HKy.out.below' hb)
      replace HKu := Lib.hid (HKu.out.below' hb)
      replace HKv := Lib.hid (HKv.out.below' hb)
      replace HB := Lib.hid (below_all HB.out hb)
      clear hb
      by_cases hbad : sumC b p prem = 0
      rotate_left
      · obtain ⟨z, hz⟩ : ∃ z, sumC b p prem = z := ⟨_, rfl⟩
        rw [hz] at hbad ⊢
        clear hz
        go_wp2
        go_ret
        exact ⟨rfl, HB.out⟩
      obtain ⟨hpb, ⟨hs0, hs1⟩, hown, hmore⟩ := sum_facts hbad
      rw [hbad]
      obtain ⟨s, hs⟩ : ∃ s, sumV b p prem = s := ⟨_, rfl⟩
      rw [hs] at hs0 hs1 hown hmore ⊢
      have HPB := Lib.hid hpb
      clear hbad hs hpb
      have k0_x := HKx.out.cell 0
      change _ = some (Value.int .i64 y.kind) at k0_x
      have k1_x := HKx.out.cell 1
      change _ = some (Value.int .i64 y.age) at k1_x
      have k2_x := HKx.out.cell 2
      change _ = some (Value.int .i64 y.years) at k2_x
      have k3_x := HKx.out.cell 3
      change _ = some (Value.int .i64 y.sum) at k3_x
      have k4_x := HKx.out.cell 4
      change _ = some (Value.int .i64 y.load) at k4_x
      have k0_y := HKy.out.cell 0
      change _ = some (Value.int .i64 y.kind) at k0_y
      have k1_y := HKy.out.cell 1
      change _ = some (Value.int .i64 y.age) at k1_y
      have k2_y := HKy.out.cell 2
      change _ = some (Value.int .i64 y.years) at k2_y
      have k3_y := HKy.out.cell 3
      change _ = some (Value.int .i64 y.sum) at k3_y
      have k4_y := HKy.out.cell 4
      change _ = some (Value.int .i64 y.load) at k4_y
      have k0_u := HKu.out.cell 0
      change _ = some (Value.int .i64 u.kind) at k0_u
      have k1_u := HKu.out.cell 1
      change _ = some (Value.int .i64 u.age) at k1_u
      have k2_u := HKu.out.cell 2
      change _ = some (Value.int .i64 u.years) at k2_u
      have k3_u := HKu.out.cell 3
      change _ = some (Value.int .i64 u.sum) at k3_u
      have k4_u := HKu.out.cell 4
      change _ = some (Value.int .i64 u.load) at k4_u
      have k0_v := HKv.out.cell 0
      change _ = some (Value.int .i64 u.kind) at k0_v
      have k1_v := HKv.out.cell 1
      change _ = some (Value.int .i64 u.age) at k1_v
      have k2_v := HKv.out.cell 2
      change _ = some (Value.int .i64 u.years) at k2_v
      have k3_v := HKv.out.cell 3
      change _ = some (Value.int .i64 u.sum) at k3_v
      have k4_v := HKv.out.cell 4
      change _ = some (Value.int .i64 u.load) at k4_v
      have k3_q := HKq.out.cell 3
      change _ = some (Value.int .i64 p.sum) at k3_q
      have z3_q := HKq.out.frozen 3
      go_upto_region 17 with (fail)
      clear k3_q z3_q
      clear k0_x k1_x k2_x k3_x k4_x k0_y k1_y k2_y k3_y k4_y k0_u k1_u k2_u k3_u k4_u k0_v k1_v k2_v k3_v k4_v
      have HKq2 : Hid (Blk (u11.setCell ⟨gq, 3, none⟩ (.int .i64 s)) gq 42 #[.int .i64 p.kind, .int .i64 p.age, .int .i64 p.years, .int .i64 s, .int .i64 p.load]) := Lib.hid (HKq.out.set_ 3 (.int .i64 s))
      have HKa2 := Lib.hid (HKa.out.far (p := ⟨gq, 3, none⟩) hgne (.int .i64 s))
      have HB2 := Lib.hid (HB.out.setCell (p := ⟨gq, 3, none⟩) HGQ.out (.int .i64 s))
      have HBT2 := Lib.hid (HBT.out.putFar (g := gq) 3 (.int .i64 s) HAQ.out)
      generalize u11.setCell ⟨gq, 3, none⟩ (.int .i64 s) = q1 at HKq2 HKa2 HB2 HBT2 ⊢
      clear HKq HKa HB HBT
      have HFS := Lib.hid (show (p.at_ s).fits from ⟨HFIT.out.1, HFIT.out.2.1, HFIT.out.2.2.1, by show In64 s; unfold In64; omega, HFIT.out.2.2.2.2⟩)
      have HP1 := Lib.hid (pol_at HPB.out hs0 hs1)
      have k0_a := HKa2.out.cell 0
      change _ = some (Value.int .i64 b.first) at k0_a
      have k1_a := HKa2.out.cell 1
      change _ = some (Value.slice A0 n0 c0) at k1_a
      have k2_a := HKa2.out.cell 2
      change _ = some (Value.int .i64 b.rate) at k2_a
      have k0_q := HKq2.out.cell 0
      change _ = some (Value.int .i64 p.kind) at k0_q
      have k1_q := HKq2.out.cell 1
      change _ = some (Value.int .i64 p.age) at k1_q
      have k2_q := HKq2.out.cell 2
      change _ = some (Value.int .i64 p.years) at k2_q
      have k3_q := HKq2.out.cell 3
      change _ = some (Value.int .i64 s) at k3_q
      have k4_q := HKq2.out.cell 4
      change _ = some (Value.int .i64 p.load) at k4_q
      go_wp2_with fail
      refine (impl_OfficePremium_any b A0 n0 c0 (p.at_ s) _ HBT2.out HFS.out).mono ?_
      rw [if_pos HP1.out, if_pos HP1.out]
      rintro e q2 ⟨rfl, hb⟩
      clear k0_a k1_a k2_a k0_q k1_q k2_q k3_q k4_q
      have HKq := Lib.hid (HKq2.out.below' hb); have HKa := Lib.hid (HKa2.out.below' hb); have HBT := Lib.hid (HBT2.out.past hb); have HB := Lib.hid (below_all HB2.out hb)
      clear hb HKq2 HKa2 HBT2 HB2
      obtain ⟨own, hown2⟩ : ∃ own, officeP b (p.at_ s) = own := ⟨_, rfl⟩
      rw [hown2] at hown ⊢
      clear hown2
      have hno : ¬ prem < own := by omega
      by_cases hmx : s = 100000000
      · clear hmore
        subst hmx
        go_wp2
        all_goals (go_ret; exact ⟨rfl, HB.out⟩)
      replace hmore := hmore hmx
      have hs2 : s + 1 ≤ 100000000 := by omega
      have hnd : (s == 100000000) = false := by simpa using hmx
      have k3_q := HKq.out.cell 3
      change _ = some (Value.int .i64 s) at k3_q
      have z3_q := HKq.out.frozen 3
      go_upto_region 23 with (fail)
      clear k3_q z3_q
      have HKq2 : Hid (Blk (q2.setCell ⟨gq, 3, none⟩ (.int .i64 (s + 1))) gq 42 #[.int .i64 p.kind, .int .i64 p.age, .int .i64 p.years, .int .i64 (s + 1), .int .i64 p.load]) := Lib.hid (HKq.out.set_ 3 (.int .i64 (s + 1)))
      have HKa2 := Lib.hid (HKa.out.far (p := ⟨gq, 3, none⟩) hgne (.int .i64 (s + 1)))
      have HB2 := Lib.hid (HB.out.setCell (p := ⟨gq, 3, none⟩) HGQ.out (.int .i64 (s + 1)))
      have HBT2 := Lib.hid (HBT.out.putFar (g := gq) 3 (.int .i64 (s + 1)) HAQ.out)
      generalize q2.setCell ⟨gq, 3, none⟩ (.int .i64 (s + 1)) = q3 at HKq2 HKa2 HB2 HBT2 ⊢
      clear HKq HKa HB HBT
      have HFS1 := Lib.hid (show (p.at_ (s + 1)).fits from ⟨HFIT.out.1, HFIT.out.2.1, HFIT.out.2.2.1, by show In64 (s + 1); unfold In64; omega, HFIT.out.2.2.2.2⟩)
      have HP2 := Lib.hid (pol_at HPB.out (show 1 ≤ s + 1 by omega) hs2)
      obtain ⟨s1, hse1⟩ : ∃ s1, s + 1 = s1 := ⟨_, rfl⟩
      rw [hse1] at hmore HKq2 HFS1 HP2 hs2 ⊢
      have k0_a := HKa2.out.cell 0
      change _ = some (Value.int .i64 b.first) at k0_a
      have k1_a := HKa2.out.cell 1
      change _ = some (Value.slice A0 n0 c0) at k1_a
      have k2_a := HKa2.out.cell 2
      change _ = some (Value.int .i64 b.rate) at k2_a
      have k0_q := HKq2.out.cell 0
      change _ = some (Value.int .i64 p.kind) at k0_q
      have k1_q := HKq2.out.cell 1
      change _ = some (Value.int .i64 p.age) at k1_q
      have k2_q := HKq2.out.cell 2
      change _ = some (Value.int .i64 p.years) at k2_q
      have k3_q := HKq2.out.cell 3
      change _ = some (Value.int .i64 s1) at k3_q
      have k4_q := HKq2.out.cell 4
      change _ = some (Value.int .i64 p.load) at k4_q
      clear hse1
      go_wp2_with fail
      refine (impl_OfficePremium_any b A0 n0 c0 (p.at_ s1) _ HBT2.out HFS1.out).mono ?_
      rw [if_pos HP2.out, if_pos HP2.out]
      rintro e q4 ⟨rfl, hb⟩
      clear k0_a k1_a k2_a k0_q k1_q k2_q k3_q k4_q
      have HB := Lib.hid (below_all HB2.out hb)
      clear hb HKq2 HKa2 HBT2 HB2
      obtain ⟨mr, hmr⟩ : ∃ mr, officeP b (p.at_ s1) = mr := ⟨_, rfl⟩
      rw [hmr] at hmore ⊢
      clear hmr
      go_wp2
      all_goals (go_ret; exact ⟨by first | rfl | simp [hmore], HB.out⟩)

/-- the value that a datum of a table lays -/
def valAt : DataW Unit → Value
  | .lit (.int k z) => .int k z
  | .lit (.string b) => .string ⟨b.toArray⟩
  | _ => .nilIface
def valsRow : DataW Unit → List Value
  | .agg ds => ds.map valAt
  | d => [valAt d]
def valsAll : DataW Unit → List Value
  | .agg ds => (ds.map valsRow).flatten
  | _ => []
def layTab (vs : List Value) : Obj → Obj
  | .cells _ t frozen => .cells vs.toArray t frozen
  | o => o
def layErr (g : Nat) : Obj → Obj
  | .cells _ t frozen => .cells #[.iface 190 (.pointer (some ⟨g, 0, none⟩))] t frozen
  | o => o
def rangeS : ByteArray := ⟨#[118, 97, 108, 117, 101, 32, 111, 117, 116, 32, 111, 102, 32, 114, 97, 110, 103, 101]⟩
def synS : ByteArray := ⟨#[105, 110, 118, 97, 108, 105, 100, 32, 115, 121, 110, 116, 97, 120]⟩
noncomputable def low : Nat := (World.holding Tryz.prog default ⟨#[], #[], []⟩).heap.size
noncomputable def laidWorld (os : Os) : World :=
  { World.holding Tryz.prog os ⟨#[.cells #[.string rangeS] 192, .cells #[.string synS] 192], #[], []⟩ with heap := ((((((((World.holding Tryz.prog os ⟨#[.cells #[.string rangeS] 192, .cells #[.string synS] 192], #[], []⟩).heap.modify 8 (layTab (valsAll Rows.laid_math_bits_deBruijn32tab))).modify 9 (layTab (valsAll Rows.laid_math_bits_deBruijn64tab))).modify 4 (layTab (valsAll Rows.laid_internal_strconv_uint64pow10))).modify 7 (layTab (valsAll Rows.laid_unicode_utf8_acceptRanges))).modify 1 (layErr low)).modify 0 (layErr (low + 1))).modify 6 (layTab (valsAll Rows.laid_unicode_utf8_first))) }
theorem laid_met (os : Os) : laidMet Tryz.prog Rows.fnPolicyTextsRow.laid ((laidWorld os).forCall (fun _ _ => 0) ⟨#[], #[.slice none 0 0], []⟩).memory :=
  laidMet_of_run' 8 (by kernel_rfl) (by kernel_rfl)
theorem reads (os : Os) {H : Type} (enc : TypeId × Value → H) : ∃ places, DataW.whole enc Tryz.prog ((laidWorld os).forCall (fun _ _ => 0) ⟨#[], #[.slice none 0 0], []⟩).memory Tryz.f4.params.toList Rows.fnPolicyTextsSpec.vars false #[.slice none 0 0].toList 8 = some ([.nil], [], places) :=
  ⟨[], by kernel_rfl⟩

set_option maxRecDepth 100000 in
theorem lifted (os : Os) (started : os.Started) (H : Type) (enc : TypeId × Value → H) (F : Stop.Interp) :
    ReturnsInHanded {} Tryz.checked os 4 .any ((OpenSpec.ofChange Rows.fnPolicyTextsSpec).preRow enc Tryz.prog Tryz.f4 Rows.fnPolicyTextsRow.domain false Rows.fnPolicyTextsRow.laid) (((OpenSpec.ofChange Rows.fnPolicyTextsSpec).at F).post enc Tryz.prog Tryz.f4 false true false false) := by
  obtain ⟨places, hx⟩ := reads os enc
  refine law_liftedDS os started H enc F 4 (by kernel_rfl) Tryz.func4
    (witness_row_at (enc := enc) (C := Tryz.checked) false (laidWorld os) #[.slice none 0 0] rfl (by kernel_rfl) (by kernel_rfl) (by kernel_rfl)
      (OpenSpec.preRow_of_cond 8 hx (by kernel_rfl) (fun k hk => by cases hk) (by kernel_rfl) (laid_met os))) (by kernel_rfl) rfl Tryz.underlying4
    (by rw [Tryz.params4]; simp only [List.forall_mem_cons]; exact ⟨⟨by kernel_rfl, of_decide_eq_true (by kernel_rfl)⟩, by simp⟩) (fun ds gs hl hg => by
      match ds, hl, gs, hg with
      | [d0], _, [], _ => rfl) ?_
  intro W base args ds p hval hA hL0 hsh
  have hL : laidMet Tryz.prog [("math/bits.deBruijn32tab", Rows.laid_math_bits_deBruijn32tab), ("math/bits.deBruijn64tab", Rows.laid_math_bits_deBruijn64tab), ("internal/strconv.uint64pow10", Rows.laid_internal_strconv_uint64pow10), ("unicode/utf8.acceptRanges", Rows.laid_unicode_utf8_acceptRanges), ("strconv.ErrRange", Rows.laid_strconv_ErrRange), ("strconv.ErrSyntax", Rows.laid_strconv_ErrSyntax), ("unicode/utf8.first", Rows.laid_unicode_utf8_first)] W := hL0
  have h2 := hL.tail.tail
  have h4 := h2.tail.tail
  have h5 := h4.tail
  obtain ⟨_, hv2, _⟩ := h2
  have hE : Env W := ⟨tab_of_vars hv2, syn_of h5, rng_of h4, mx_of hsh⟩
  rw [Tryz.params4] at hA hval
  obtain ⟨v0, vs0, d0, ds0, p0, q0, hargs, rfl, rfl, h0, r0⟩ := trodAll_cons hA
  obtain ⟨rfl, rfl, rfl⟩ := trodAll_nil r0
  obtain rfl : args = #[v0] := by cases args; simp_all
  obtain ⟨A0, n0, c0, rfl⟩ := okWide_slice Tryz.underlying22 (hval 0 22 v0 rfl rfl)
  obtain ⟨fu0, ho0⟩ := h0
  obtain ⟨bs, hbl, hby, hRd, hnm⟩ := open_code Tryz.underlying22 Tryz.underlying5 (by kernel_rfl) ho0
  exact walk ⟨A0, n0, c0, bs⟩ hbl hby hnm W hRd hE
theorem said : Rows.FnPolicyTextsSaid :=
  OpenClaim.holds_of_cond 4 Tryz.f4 rfl rfl rfl rfl rfl rfl rfl ⟨rfl, rfl, rfl, rfl, rfl⟩ rfl rfl rfl rfl rfl (by kernel_rfl) Tryz.func4 (by kernel_rfl)
    (of_decide_eq_true (by kernel_rfl)) (by unfold Func.isWrapper; first | (rw [if_pos (by decide +kernel)]; kernel_rfl) | (rw [if_neg (by decide +kernel)]; exact ⟨rfl, rfl⟩))
    (fun os started H enc _ F => by rw [OpenClaim.pre_eq_preRow]; exact lifted os started H enc F)
theorem plain (f : FuncId) (fn : Func) (hf : Tryz.pinned.checked.prog.funcNamed "loop.example/g01025/laws.FnPolicyTexts" = some f) (hfn : Tryz.pinned.checked.prog.funcs[f]? = some fn) :
    true = Tryz.pinned.checked.prog.looks [] ∧ ∀ (j : Nat) t, fn.params[j]? = some t → Tryz.pinned.checked.prog.wantsStandIn t = false := by
  obtain rfl : f = 4 := Option.some.inj ((show Tryz.prog.funcNamed "loop.example/g01025/laws.FnPolicyTexts" = some 4 by kernel_rfl).symm.trans hf) |>.symm
  obtain rfl : fn = Tryz.f4 := (Option.some.inj (Tryz.func4.symm.trans hfn)).symm
  refine ⟨by kernel_rfl, fun j t ht => ?_⟩
  rw [Tryz.params4] at ht
  have hm : t ∈ [22] := by simpa using Array.mem_of_getElem? ht
  exact (show ∀ t ∈ [22], Tryz.prog.wantsStandIn t = false by simp only [List.forall_mem_cons]; exact ⟨by kernel_rfl, by simp⟩) t hm
theorem proved : Rows.FnPolicyTextsCardSaid :=
  Claim7.holds_tied_plain_at .later [] _ _ _ _ said (fun _ h => by cases h) (by kernel_rfl) (fun _ h => by cases h) fnPolicyTexts_row_tie rfl ⟨rfl, rfl⟩ (by kernel_rfl) rfl plain (by kernel_rfl)
end fnPolicyTexts
end Go.Proofs.YtkdfdbcpbgganaaGreatDoor
