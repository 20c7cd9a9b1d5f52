/- Parts of a proof, one after another: Lv6, Lv7. No condition. -/
import Derived.Test.YtbjdbpdgacfcpaaK16
import Derived.Test.YtbjdbpdgacfcpaaK18
/- The best year of leaving: the program (printed by lv2.py). -/
section
namespace Go.Proofs.Ytbjdbpdgacfcpaa
open Go.RowKit Go.BigFrame

set_option maxRecDepth 20000 in
set_option maxHeartbeats 8000000 in
theorem impl_BestLeaving_any (b : Bas) (A : Option Addr) (n cap : Nat) (p : Policy) (w : World) (hB : BasT w A n cap b) (hp : p.fits) :
    Calls Try.prog 45 #[.agg #[.int .i64 b.first, .slice A n cap, .int .i64 b.rate], .agg p.row.toArray] w fun e w' => e = .returned (.tuple #[.int .i64 (bestP b p).1, .int .i64 (bestP b p).2.1, .int .i64 (bestP b p).2.2]) ∧ Below w.heap.size w w' := by
  unfold Policy.row
  have HB := Lib.hid (Below.refl w.heap.size w)
  have HH := Lib.hid (Held.nil w)
  have HT := Lib.hid hB; clear hB
  obtain ⟨hb, hr0, hr1⟩ := box2 (w := w) (tx := 28) (ty := 35) (X := [.int .i64 b.first, .slice A n cap, .int .i64 b.rate]) (Y := [.int .i64 p.kind, .int .i64 p.age, .int .i64 p.years, .int .i64 p.sum, .int .i64 p.load])
  replace HB := Lib.hid (below_all HB.out hb)
  replace HT := Lib.hid (HT.out.past hb)
  replace HH := Lib.hid (((HH.out.past hb).cons hr0).cons hr1)
  clear hb hr0 hr1
  cases h1 : polB b p
  · skip
    have Q := Lib.hid (show bestP b p = (0, 0, 1) by unfold bestP; rw [if_neg (by simp [h1])])
    go_enter Try.func45, Try.ntmps45
    have HL_bx := Lib.hid (Rd.box (HH.out.get 1 rfl))
    have HL_px := Lib.hid (Rd.box (HH.out.get 0 rfl))
    go_wp2_with (first | (refine wpList_load_agg rfl 28 _ rfl ⟨w.heap.size, 0, none⟩ rfl [.int .i64 b.first, .slice A n cap, .int .i64 b.rate] HL_bx.out _ Try.underlying28 rfl Bas.size ?_) | (refine wpList_load_agg rfl 35 _ rfl ⟨w.heap.size + 1, 0, none⟩ rfl [.int .i64 p.kind, .int .i64 p.age, .int .i64 p.years, .int .i64 p.sum, .int .i64 p.load] HL_px.out _ Try.underlying35 rfl Policy.size ?_))
    clear HL_bx HL_px
    generalize ((w.alloc (.cells #[.int .i64 b.first, .slice A n cap, .int .i64 b.rate] 28)).alloc (.cells #[.int .i64 p.kind, .int .i64 p.age, .int .i64 p.years, .int .i64 p.sum, .int .i64 p.load] 35)) = v0 at HB HH HT ⊢
    generalize w.heap.size + 1 = g0_1 at HH ⊢
    generalize w.heap.size = g0_0 at HH ⊢
    refine (impl_IsPolicy_any b A n cap p _ HT.out hp).mono ?_
    rw [h1]
    rintro e w1 ⟨rfl, hb⟩
    replace HB := Lib.hid (below_all HB.out hb)
    replace HT := Lib.hid (HT.out.past hb)
    replace HH := Lib.hid (HH.out.past hb)
    clear hb
    go_wp2
    go_ret3
    exact ⟨by rw [Q.out]; rfl, HB.out⟩
  · skip
    have H1 := Lib.hid h1
    have HPO := Lib.hid (pol_ok h1)
    obtain ⟨hn0, hn1, hn2⟩ := rlN_cast HPO.out
    have HNC := Lib.hid hn0; clear hn0
    have hdb := dur_small HPO.out
    have ha0 := HPO.out.age0; have ha1 := HPO.out.age1; have hf0 := HPO.out.tab.first0; have hf1 := HPO.out.tab.first1
    obtain ⟨o0, o1, o2, o3⟩ := office_bound HPO.out
    have o4 : 0 ≤ officeP b p := by have := (net_bound HPO.out).1; omega
    obtain ⟨O, hO⟩ : ∃ O, O = officeP b p := ⟨_, rfl⟩
    rw [← hO] at o2 o3 o4
    have HO := Lib.hid (show officeP b p = O from hO.symm)
    clear hO o0 o1 o2
    by_cases h2 : durP b p ≤ 2
    · skip
      have Q := Lib.hid (show bestP b p = (0, 0, 4) by unfold bestP; rw [if_pos H1.out, if_pos h2])
      have h2b : decide (durP b p ≤ 2) = true := by simp; omega
      clear h2
      go_enter Try.func45, Try.ntmps45
      have HL_bx := Lib.hid (Rd.box (HH.out.get 1 rfl))
      have HL_px := Lib.hid (Rd.box (HH.out.get 0 rfl))
      go_wp2_with (first | (refine wpList_load_agg rfl 28 _ rfl ⟨w.heap.size, 0, none⟩ rfl [.int .i64 b.first, .slice A n cap, .int .i64 b.rate] HL_bx.out _ Try.underlying28 rfl Bas.size ?_) | (refine wpList_load_agg rfl 35 _ rfl ⟨w.heap.size + 1, 0, none⟩ rfl [.int .i64 p.kind, .int .i64 p.age, .int .i64 p.years, .int .i64 p.sum, .int .i64 p.load] HL_px.out _ Try.underlying35 rfl Policy.size ?_))
      clear HL_bx HL_px
      generalize ((w.alloc (.cells #[.int .i64 b.first, .slice A n cap, .int .i64 b.rate] 28)).alloc (.cells #[.int .i64 p.kind, .int .i64 p.age, .int .i64 p.years, .int .i64 p.sum, .int .i64 p.load] 35)) = v0 at HB HH HT ⊢
      generalize w.heap.size + 1 = g0_1 at HH ⊢
      generalize w.heap.size = g0_0 at HH ⊢
      refine (impl_IsPolicy_any b A n cap p _ HT.out hp).mono ?_
      rw [h1]
      rintro e w1 ⟨rfl, hb⟩
      replace HB := Lib.hid (below_all HB.out hb)
      replace HT := Lib.hid (HT.out.past hb)
      replace HH := Lib.hid (HH.out.past hb)
      clear hb
      have HL_bx := Lib.hid (Rd.box (HH.out.get 1 rfl))
      have HL_px := Lib.hid (Rd.box (HH.out.get 0 rfl))
      go_wp2_with (first | (refine wpList_load_agg rfl 28 _ rfl ⟨g0_0, 0, none⟩ rfl [.int .i64 b.first, .slice A n cap, .int .i64 b.rate] HL_bx.out _ Try.underlying28 rfl Bas.size ?_) | (refine wpList_load_agg rfl 35 _ rfl ⟨g0_1, 0, none⟩ rfl [.int .i64 p.kind, .int .i64 p.age, .int .i64 p.years, .int .i64 p.sum, .int .i64 p.load] HL_px.out _ Try.underlying35 rfl Policy.size ?_))
      clear HL_bx HL_px
      refine (impl_durationOf_any b A n cap p _ HT.out HPO.out).mono ?_
      rintro e w2 ⟨rfl, hb⟩
      replace HB := Lib.hid (below_all HB.out hb)
      replace HT := Lib.hid (HT.out.past hb)
      replace HH := Lib.hid (HH.out.past hb)
      clear hb
      go_wp2
      go_ret3
      exact ⟨by rw [Q.out]; rfl, HB.out⟩
    · skip
      have QR := Lib.hid (show bestP b p = if midB b p (rlN b p) = true then (((bestAt b p (rlN b p - 3)).1 : Int), (bestAt b p (rlN b p - 3)).2, 0) else (0, 0, 5) by unfold bestP; rw [if_pos H1.out, if_neg h2])
      have h2b : decide (durP b p ≤ 2) = false := by simp; omega
      have hn3 : 3 ≤ rlN b p := by have := HNC.out; omega
      clear h2
      go_enter Try.func45, Try.ntmps45
      have HL_bx := Lib.hid (Rd.box (HH.out.get 1 rfl))
      have HL_px := Lib.hid (Rd.box (HH.out.get 0 rfl))
      go_wp2_with (first | (refine wpList_load_agg rfl 28 _ rfl ⟨w.heap.size, 0, none⟩ rfl [.int .i64 b.first, .slice A n cap, .int .i64 b.rate] HL_bx.out _ Try.underlying28 rfl Bas.size ?_) | (refine wpList_load_agg rfl 35 _ rfl ⟨w.heap.size + 1, 0, none⟩ rfl [.int .i64 p.kind, .int .i64 p.age, .int .i64 p.years, .int .i64 p.sum, .int .i64 p.load] HL_px.out _ Try.underlying35 rfl Policy.size ?_))
      clear HL_bx HL_px
      generalize ((w.alloc (.cells #[.int .i64 b.first, .slice A n cap, .int .i64 b.rate] 28)).alloc (.cells #[.int .i64 p.kind, .int .i64 p.age, .int .i64 p.years, .int .i64 p.sum, .int .i64 p.load] 35)) = v0 at HB HH HT ⊢
      generalize w.heap.size + 1 = g0_1 at HH ⊢
      generalize w.heap.size = g0_0 at HH ⊢
      refine (impl_IsPolicy_any b A n cap p _ HT.out hp).mono ?_
      rw [h1]
      rintro e w1 ⟨rfl, hb⟩
      replace HB := Lib.hid (below_all HB.out hb)
      replace HT := Lib.hid (HT.out.past hb)
      replace HH := Lib.hid (HH.out.past hb)
      clear hb
      have HL_bx := Lib.hid (Rd.box (HH.out.get 1 rfl))
      have HL_px := Lib.hid (Rd.box (HH.out.get 0 rfl))
      go_wp2_with (first | (refine wpList_load_agg rfl 28 _ rfl ⟨g0_0, 0, none⟩ rfl [.int .i64 b.first, .slice A n cap, .int .i64 b.rate] HL_bx.out _ Try.underlying28 rfl Bas.size ?_) | (refine wpList_load_agg rfl 35 _ rfl ⟨g0_1, 0, none⟩ rfl [.int .i64 p.kind, .int .i64 p.age, .int .i64 p.years, .int .i64 p.sum, .int .i64 p.load] HL_px.out _ Try.underlying35 rfl Policy.size ?_))
      clear HL_bx HL_px
      refine (impl_durationOf_any b A n cap p _ HT.out HPO.out).mono ?_
      rintro e w2 ⟨rfl, hb⟩
      replace HB := Lib.hid (below_all HB.out hb)
      replace HT := Lib.hid (HT.out.past hb)
      replace HH := Lib.hid (HH.out.past hb)
      clear hb
      have HL_bx := Lib.hid (Rd.box (HH.out.get 1 rfl))
      have HL_px := Lib.hid (Rd.box (HH.out.get 0 rfl))
      go_wp2_with (first | (refine wpList_load_agg rfl 28 _ rfl ⟨g0_0, 0, none⟩ rfl [.int .i64 b.first, .slice A n cap, .int .i64 b.rate] HL_bx.out _ Try.underlying28 rfl Bas.size ?_) | (refine wpList_load_agg rfl 35 _ rfl ⟨g0_1, 0, none⟩ rfl [.int .i64 p.kind, .int .i64 p.age, .int .i64 p.years, .int .i64 p.sum, .int .i64 p.load] HL_px.out _ Try.underlying35 rfl Policy.size ?_))
      clear HL_bx HL_px
      refine (impl_reserveList_any b A n cap p _ HT.out H1.out).mono ?_
      rintro e w3 ⟨A2, c2, rfl, hR, hb⟩
      replace HB := Lib.hid (below_all HB.out hb)
      replace HT := Lib.hid (HT.out.past hb)
      replace HH := Lib.hid ((HH.out.past hb).cons hR.rd)
      clear hb
      clear hR
      have HL_bx := Lib.hid (Rd.box (HH.out.get 2 rfl))
      have HL_px := Lib.hid (Rd.box (HH.out.get 1 rfl))
      go_wp2_with (first | (refine wpList_load_agg rfl 28 _ rfl ⟨g0_0, 0, none⟩ rfl [.int .i64 b.first, .slice A n cap, .int .i64 b.rate] HL_bx.out _ Try.underlying28 rfl Bas.size ?_) | (refine wpList_load_agg rfl 35 _ rfl ⟨g0_1, 0, none⟩ rfl [.int .i64 p.kind, .int .i64 p.age, .int .i64 p.years, .int .i64 p.sum, .int .i64 p.load] HL_px.out _ Try.underlying35 rfl Policy.size ?_))
      clear HL_bx HL_px
      refine (impl_officePremium_any b A n cap p _ HT.out H1.out).mono ?_
      rw [HO.out]
      rintro e w4 ⟨rfl, hb⟩
      replace HB := Lib.hid (below_all HB.out hb)
      replace HT := Lib.hid (HT.out.past hb)
      replace HH := Lib.hid (HH.out.past hb)
      clear hb
      have HH1 := HH
      have HB1 := HB
      go_wp2
      go_loopw [10, 11, 12] (fun x m i wr => ∃ (j : Nat) (ki xb xm : Int), (2 ≤ j ∧ j ≤ rlN b p) ∧ ki = (j : Int) ∧ (xb = (bstP b p j).1 ∧ xm = (bstP b p j).2) ∧ midB b p j = true ∧ x = .int .i64 xb ∧ m = .int .i64 xm ∧ i = .int .i64 ki ∧ Below w4.heap.size w4 wr) (fun _ _ i _ => rlN b p - (intOf i).toNat)
      case atStart => exact ⟨2, 2, -1, 0, ⟨by omega, by omega⟩, rfl, ⟨rfl, rfl⟩, midB_two b p, rfl, rfl, rfl, Below.refl _ _⟩
      case round =>
        clear HB HH
        obtain ⟨j, ki, xb, xm, ⟨hj2, hjn⟩, hki, ⟨hxb, hxm⟩, hmid, rfl, rfl, rfl, hb⟩ := hrel
        have HKI := Lib.hid hki; clear hki
        have HXB := Lib.hid hxb; clear hxb
        have HXM := Lib.hid hxm; clear hxm
        have HMI := Lib.hid hmid; clear hmid
        have HW := Lib.hid hb
        have HH := Lib.hid (HH1.out.past hb)
        have HB := Lib.hid (HB1.out.trans (hb.mono HB1.out.size))
        clear hb
        by_cases hlt : j < rlN b p
        · skip
          have hkl : ki < (rlN b p : Int) := by have := HKI.out; omega
          have hk0 : 0 ≤ ki := by have := HKI.out; omega
          have hk1 : ki ≤ 120 := by have := HKI.out; omega
          have hkt : ki.toNat = j := by have := HKI.out; omega
          obtain ⟨ad, rfl, had, hcz⟩ := ((HH.out.get 0 rfl)).int_at (rlTo_get b p hlt)
          obtain ⟨q, hq⟩ : ∃ q, q = rlAt b p j := ⟨_, rfl⟩
          have hqb := rlAt_bound HPO.out hlt
          rw [← hq] at hcz hqb
          rw [← hkt] at hcz
          obtain ⟨q0, q1⟩ := hqb
          have hp0 : 0 ≤ ki * O := Int.mul_nonneg hk0 o4
          have hp1 : ki * O ≤ 120 * 200000000 := Int.mul_le_mul hk1 o3 o4 (by omega)
          by_cases hd : partD b p (j : Int) = 0
          · skip
            have hqn : decide (q < 0) = true := by simp [hq, rlAt, hd]
            have Q := Lib.hid (QR.out.trans (if_neg (by rw [midB_stop hj2 hlt hd]; simp)))
            clear hd hq hkt
            go_wp2_with (go_at_call 82; refine (intsLen_any _ (rlN b p) c2 _ (by omega)).mono ?_; rintro e w' ⟨rfl, rfl⟩)
            go_ret3
            exact ⟨by rw [Q.out]; rfl, HB.out⟩
          · skip
            have hqe : q = resAt b p j := by rw [hq]; exact if_neg hd
            have hqp := res_bound (year_at HPO.out hlt hd)
            rw [← hqe] at hqp
            obtain ⟨q2, q3⟩ := hqp
            have hqn : decide (q < 0) = false := by simp; omega
            have HMS := Lib.hid (midB_succ HMI.out hd)
            have HBN := Lib.hid (show bestN b p j = q * 900 / 1000 - ki * O by unfold bestN valV; rw [← hqe, HO.out, HKI.out])
            clear hd hqe hq
            by_cases hj : j = 2
            · skip
              have hxb0 : xb = -1 := by have := HXB.out; rw [hj] at this; exact this
              have HN := Lib.hid (show bstP b p (j + 1) = (ki, q * 900 / 1000 - ki * O) by rw [← HBN.out, HKI.out, hj]; rfl)
              have hxl : decide (xb < 0) = true := by simp; omega
              clear hj hxb0 hkt
              go_wp2_with (first | (go_at_call 82; refine (intsLen_any _ (rlN b p) c2 _ (by omega)).mono ?_; rintro e w' ⟨rfl, rfl⟩) | (go_at_call 93; refine (impl_perMille_any q 900 ⟨by omega, by omega⟩ _).mono ?_; rintro e w' ⟨rfl, rfl⟩))
              go_roundw
              case rel => exact ⟨j + 1, ki + 1, ki, q * 900 / 1000 - ki * O, ⟨by omega, by omega⟩, by have := HKI.out; omega, ⟨by rw [HN.out], by rw [HN.out]⟩, HMS.out, rfl, rfl, by go_num, HW.out⟩
              case measure => have := HKI.out; simp [intOf]; omega
            · skip
              have hbp := bst_pos (b := b) (p := p) (k := j) (by omega)
              have hxl : decide (xb < 0) = false := by simp; have := HXB.out; omega
              have hbs := bst_succ (b := b) (p := p) (k := j) (by omega)
              rw [HBN.out, ← HXM.out, ← HKI.out] at hbs
              clear hbp hj hkt
              by_cases hc : xm < q * 900 / 1000 - ki * O
              · skip
                rw [if_pos hc] at hbs
                have HN := Lib.hid hbs; clear hbs
                have hcb : decide (xm < q * 900 / 1000 - ki * O) = true := by simp; omega
                clear hc
                go_wp2_with (first | (go_at_call 82; refine (intsLen_any _ (rlN b p) c2 _ (by omega)).mono ?_; rintro e w' ⟨rfl, rfl⟩) | (go_at_call 93; refine (impl_perMille_any q 900 ⟨by omega, by omega⟩ _).mono ?_; rintro e w' ⟨rfl, rfl⟩))
                go_roundw
                case rel => exact ⟨j + 1, ki + 1, ki, q * 900 / 1000 - ki * O, ⟨by omega, by omega⟩, by have := HKI.out; omega, ⟨by rw [HN.out], by rw [HN.out]⟩, HMS.out, rfl, rfl, by go_num, HW.out⟩
                case measure => have := HKI.out; simp [intOf]; omega
              · skip
                rw [if_neg hc] at hbs
                have HN := Lib.hid hbs; clear hbs
                have hcb : decide (xm < q * 900 / 1000 - ki * O) = false := by simp; omega
                clear hc
                go_wp2_with (first | (go_at_call 82; refine (intsLen_any _ (rlN b p) c2 _ (by omega)).mono ?_; rintro e w' ⟨rfl, rfl⟩) | (go_at_call 93; refine (impl_perMille_any q 900 ⟨by omega, by omega⟩ _).mono ?_; rintro e w' ⟨rfl, rfl⟩))
                go_roundw
                case rel => exact ⟨j + 1, ki + 1, xb, xm, ⟨by omega, by omega⟩, by have := HKI.out; omega, ⟨by rw [HN.out]; exact HXB.out, by rw [HN.out]; exact HXM.out⟩, HMS.out, rfl, rfl, by go_num, HW.out⟩
                case measure => have := HKI.out; simp [intOf]; omega
        · skip
          have hjn2 : j = rlN b p := by omega
          have hkl : ¬ ki < (rlN b p : Int) := by have := HKI.out; omega
          have hbg := bst_ge b p (rlN b p - 3)
          rw [show rlN b p - 3 + 3 = rlN b p by omega] at hbg
          have hM := HMI.out
          rw [hjn2] at hM
          have Q := Lib.hid (QR.out.trans (if_pos hM))
          have QX := Lib.hid (show ((bestAt b p (rlN b p - 3)).1 : Int) = xb by rw [HXB.out, hjn2, hbg])
          have QM := Lib.hid (show (bestAt b p (rlN b p - 3)).2 = xm by rw [HXM.out, hjn2, hbg])
          clear hbg hM hjn2
          go_wp2_with (go_at_call 82; refine (intsLen_any _ (rlN b p) c2 _ (by omega)).mono ?_; rintro e w' ⟨rfl, rfl⟩)
          go_ret3
          exact ⟨by rw [Q.out, QX.out, QM.out]; rfl, HB.out⟩
end Go.Proofs.Ytbjdbpdgacfcpaa
end

/- The best year of leaving: the reference; office premiums (printed by lv2.py). -/
section
namespace Go.Proofs.Ytbjdbpdgacfcpaa
open Go.RowKit Go.BigFrame

set_option maxRecDepth 20000 in
set_option maxHeartbeats 8000000 in
theorem spec_BestLeaving_any (b : Bas) (A : Option Addr) (n cap : Nat) (p : Policy) (w : World) (hB : BasT w A n cap b) (hp : p.fits) :
    Calls Try.prog 46 #[.agg #[.int .i64 b.first, .slice A n cap, .int .i64 b.rate], .agg p.row.toArray] w fun e w' => e = .returned (.tuple #[.int .i64 (bestP b p).1, .int .i64 (bestP b p).2.1, .int .i64 (bestP b p).2.2]) ∧ Below w.heap.size w w' := by
  unfold Policy.row
  have HB := Lib.hid (Below.refl w.heap.size w)
  have HH := Lib.hid (Held.nil w)
  have HT := Lib.hid hB; clear hB
  obtain ⟨hb, hr0, hr1⟩ := box2 (w := w) (tx := 28) (ty := 35) (X := [.int .i64 b.first, .slice A n cap, .int .i64 b.rate]) (Y := [.int .i64 p.kind, .int .i64 p.age, .int .i64 p.years, .int .i64 p.sum, .int .i64 p.load])
  replace HB := Lib.hid (below_all HB.out hb)
  replace HT := Lib.hid (HT.out.past hb)
  replace HH := Lib.hid (((HH.out.past hb).cons hr0).cons hr1)
  clear hb hr0 hr1
  cases h1 : polB b p
  · skip
    have Q := Lib.hid (show bestP b p = (0, 0, 1) by unfold bestP; rw [if_neg (by simp [h1])])
    go_enter Try.func46, Try.ntmps46
    have HL_bx := Lib.hid (Rd.box (HH.out.get 1 rfl))
    have HL_px := Lib.hid (Rd.box (HH.out.get 0 rfl))
    go_wp2_with (first | (refine wpList_load_agg rfl 28 _ rfl ⟨w.heap.size, 0, none⟩ rfl [.int .i64 b.first, .slice A n cap, .int .i64 b.rate] HL_bx.out _ Try.underlying28 rfl Bas.size ?_) | (refine wpList_load_agg rfl 35 _ rfl ⟨w.heap.size + 1, 0, none⟩ rfl [.int .i64 p.kind, .int .i64 p.age, .int .i64 p.years, .int .i64 p.sum, .int .i64 p.load] HL_px.out _ Try.underlying35 rfl Policy.size ?_))
    clear HL_bx HL_px
    generalize ((w.alloc (.cells #[.int .i64 b.first, .slice A n cap, .int .i64 b.rate] 28)).alloc (.cells #[.int .i64 p.kind, .int .i64 p.age, .int .i64 p.years, .int .i64 p.sum, .int .i64 p.load] 35)) = v0 at HB HH HT ⊢
    generalize w.heap.size + 1 = g0_1 at HH ⊢
    generalize w.heap.size = g0_0 at HH ⊢
    refine (spec_IsPolicy_any b A n cap p _ HT.out hp).mono ?_
    rw [h1]
    rintro e w1 ⟨rfl, hb⟩
    replace HB := Lib.hid (below_all HB.out hb)
    replace HT := Lib.hid (HT.out.past hb)
    replace HH := Lib.hid (HH.out.past hb)
    clear hb
    go_wp2
    go_ret3
    exact ⟨by rw [Q.out]; rfl, HB.out⟩
  · skip
    have H1 := Lib.hid h1
    have HPO := Lib.hid (pol_ok h1)
    obtain ⟨hn0, hn1, hn2⟩ := rlN_cast HPO.out
    have HNC := Lib.hid hn0; clear hn0
    have hdb := dur_small HPO.out
    have ha0 := HPO.out.age0; have ha1 := HPO.out.age1; have hf0 := HPO.out.tab.first0; have hf1 := HPO.out.tab.first1
    obtain ⟨o0, o1, o2, o3⟩ := office_bound HPO.out
    have o4 : 0 ≤ officeP b p := by have := (net_bound HPO.out).1; omega
    obtain ⟨O, hO⟩ : ∃ O, O = officeP b p := ⟨_, rfl⟩
    rw [← hO] at o2 o3 o4
    have HO := Lib.hid (show officeP b p = O from hO.symm)
    clear hO o0 o1 o2
    have QR := Lib.hid (show bestP b p = if durP b p ≤ 2 then (0, 0, 4) else if midB b p (rlN b p) = true then (((bestAt b p (rlN b p - 3)).1 : Int), (bestAt b p (rlN b p - 3)).2, 0) else (0, 0, 5) by unfold bestP; rw [if_pos H1.out])
    go_enter Try.func46, Try.ntmps46
    have HL_bx := Lib.hid (Rd.box (HH.out.get 1 rfl))
    have HL_px := Lib.hid (Rd.box (HH.out.get 0 rfl))
    go_wp2_with (first | (refine wpList_load_agg rfl 28 _ rfl ⟨w.heap.size, 0, none⟩ rfl [.int .i64 b.first, .slice A n cap, .int .i64 b.rate] HL_bx.out _ Try.underlying28 rfl Bas.size ?_) | (refine wpList_load_agg rfl 35 _ rfl ⟨w.heap.size + 1, 0, none⟩ rfl [.int .i64 p.kind, .int .i64 p.age, .int .i64 p.years, .int .i64 p.sum, .int .i64 p.load] HL_px.out _ Try.underlying35 rfl Policy.size ?_))
    clear HL_bx HL_px
    generalize ((w.alloc (.cells #[.int .i64 b.first, .slice A n cap, .int .i64 b.rate] 28)).alloc (.cells #[.int .i64 p.kind, .int .i64 p.age, .int .i64 p.years, .int .i64 p.sum, .int .i64 p.load] 35)) = v0 at HB HH HT ⊢
    generalize w.heap.size + 1 = g0_1 at HH ⊢
    generalize w.heap.size = g0_0 at HH ⊢
    refine (spec_IsPolicy_any b A n cap p _ HT.out hp).mono ?_
    rw [h1]
    rintro e w1 ⟨rfl, hb⟩
    replace HB := Lib.hid (below_all HB.out hb)
    replace HT := Lib.hid (HT.out.past hb)
    replace HH := Lib.hid (HH.out.past hb)
    clear hb
    have HH1 := HH
    have HT1 := HT
    have HB1 := HB
    go_wp2
    go_loopw [7, 8, 9, 10] (fun x m h i wr => ∃ (j : Nat) (ki xb xm : Int), (2 ≤ j ∧ (j ≤ rlN b p ∨ j = 2)) ∧ ki = (j : Int) ∧ ((3 ≤ j → xb = (bstP b p j).1 ∧ xm = (bstP b p j).2) ∧ h = .bool (decide (3 ≤ j))) ∧ midB b p j = true ∧ x = .int .i64 xb ∧ m = .int .i64 xm ∧ i = .int .i64 ki ∧ Below w1.heap.size w1 wr) (fun _ _ _ i _ => rlN b p + 3 - (intOf i).toNat)
    case atStart => exact ⟨2, 2, 0, 0, ⟨by omega, by omega⟩, rfl, ⟨fun h => by omega, rfl⟩, midB_two b p, rfl, rfl, rfl, Below.refl _ _⟩
    case round =>
      clear HB HH HT
      obtain ⟨j, ki, xb, xm, ⟨hj2, hjn⟩, hki, ⟨hxx, hxh⟩, hmid, rfl, rfl, rfl, hb⟩ := hrel
      have HKI := Lib.hid hki; clear hki
      have HXX := Lib.hid hxx; clear hxx
      have HMI := Lib.hid hmid; clear hmid
      have HW := Lib.hid hb
      have HH := Lib.hid (HH1.out.past hb)
      have HT := Lib.hid (HT1.out.past hb)
      have HB := Lib.hid (HB1.out.trans (hb.mono HB1.out.size))
      clear hb
      have hk0 : 0 ≤ ki := by have := HKI.out; omega
      have hk9 : ki ≤ 1000 := by have := HKI.out; omega
      obtain ⟨xf, hxf⟩ : ∃ xf : Bool, xf = decide (3 ≤ j) := ⟨_, rfl⟩
      rw [← hxf] at hxh
      subst hxh
      have HXF := Lib.hid hxf; clear hxf
      have HL_bx := Lib.hid (Rd.box (HH.out.get 1 rfl))
      have HL_px := Lib.hid (Rd.box (HH.out.get 0 rfl))
      go_wp2_with (first | (refine wpList_load_agg rfl 28 _ rfl ⟨g0_0, 0, none⟩ rfl [.int .i64 b.first, .slice A n cap, .int .i64 b.rate] HL_bx.out _ Try.underlying28 rfl Bas.size ?_) | (refine wpList_load_agg rfl 35 _ rfl ⟨g0_1, 0, none⟩ rfl [.int .i64 p.kind, .int .i64 p.age, .int .i64 p.years, .int .i64 p.sum, .int .i64 p.load] HL_px.out _ Try.underlying35 rfl Policy.size ?_))
      clear HL_bx HL_px
      refine (spec_l10Duration_any b A n cap p _ HT.out HPO.out).mono ?_
      rintro e w2 ⟨rfl, hb⟩
      replace HW := Lib.hid (HW.out.trans (hb.mono HW.out.size))
      replace HB := Lib.hid (below_all HB.out hb)
      replace HT := Lib.hid (HT.out.past hb)
      replace HH := Lib.hid (HH.out.past hb)
      clear hb
      by_cases hlt : j < rlN b p
      · skip
        have hkl : ki < durP b p := by have := HKI.out; have := HNC.out; omega
        have hk1 : ki ≤ 120 := by omega
        have hp0 : 0 ≤ ki * O := Int.mul_nonneg hk0 o4
        have hp1 : ki * O ≤ 120 * 200000000 := Int.mul_le_mul hk1 o3 o4 (by omega)
        obtain ⟨D, hD⟩ : ∃ D, D = partD b p ki := ⟨_, rfl⟩
        have HTV := Lib.hid hD
        have p0 : w2.cell? ⟨g0_1, 0, none⟩ = some (.int .i64 p.kind) := Rd.bcell (HH.out.get 0 rfl) 0 rfl
        have p1 : w2.cell? ⟨g0_1, 1, none⟩ = some (.int .i64 p.age) := Rd.bcell (HH.out.get 0 rfl) 1 rfl
        have p2 : w2.cell? ⟨g0_1, 2, none⟩ = some (.int .i64 p.years) := Rd.bcell (HH.out.get 0 rfl) 2 rfl
        have p3 : w2.cell? ⟨g0_1, 3, none⟩ = some (.int .i64 p.sum) := Rd.bcell (HH.out.get 0 rfl) 3 rfl
        have p4 : w2.cell? ⟨g0_1, 4, none⟩ = some (.int .i64 p.load) := Rd.bcell (HH.out.get 0 rfl) 4 rfl
        have q0 : w2.cell? ⟨g0_0, 0, none⟩ = some (.int .i64 b.first) := Rd.bcell (HH.out.get 1 rfl) 0 rfl
        have q1 : w2.cell? ⟨g0_0, 1, none⟩ = some (.slice A n cap) := Rd.bcell (HH.out.get 1 rfl) 1 rfl
        have q2 : w2.cell? ⟨g0_0, 2, none⟩ = some (.int .i64 b.rate) := Rd.bcell (HH.out.get 1 rfl) 2 rfl
        have HL_tx := Lib.hid (Rd.boxT (HH.out.get 1 rfl))
        go_wp2_with (refine wpList_load_agg rfl 26 _ rfl ⟨g0_0, 0, none⟩ rfl [.int .i64 b.first, .slice A n cap] HL_tx.out _ Try.underlying26 rfl Tab.size ?_)
        clear HL_tx
        clear p0 p1 p2 p3 p4
        clear q0 q1 q2
        refine (spec_l05D_at b A n cap (p.age + ki) _ HT.out HPO.out.toBasOk ⟨by omega, by omega⟩).mono ?_
        rw [show b.d (p.age + ki) = D from hD.symm]
        rintro e w3 ⟨rfl, hb⟩
        clear hD
        replace HW := Lib.hid (HW.out.trans (hb.mono HW.out.size))
        replace HB := Lib.hid (below_all HB.out hb)
        replace HT := Lib.hid (HT.out.past hb)
        replace HH := Lib.hid (HH.out.past hb)
        clear hb
        by_cases hd : D = 0
        · skip
          have hdz : (D == 0) = true := by simp [hd]
          have hd2 : partD b p (j : Int) = 0 := by rw [← HKI.out, ← HTV.out]; exact hd
          have Q := Lib.hid ((QR.out.trans (if_neg (by have := HNC.out; have := HKI.out; omega))).trans (if_neg (by rw [midB_stop hj2 hlt hd2]; simp)))
          clear hd hd2
          go_wp2
          go_ret3
          exact ⟨by rw [Q.out]; rfl, HB.out⟩
        · skip
          have hdz : (D == 0) = false := by simp [hd]
          have hd2 : ¬ partD b p (j : Int) = 0 := by rw [← HKI.out, ← HTV.out]; exact hd
          have HY := Lib.hid (show YearOk b p ki by rw [HKI.out]; exact year_at HPO.out hlt hd2)
          obtain ⟨⟨r0, r1⟩, u0, u1⟩ := val_bound HY.out
          have HMS := Lib.hid (midB_succ HMI.out hd2)
          obtain ⟨V, hV⟩ : ∃ V, V = valV b p ki := ⟨_, rfl⟩
          rw [← hV] at u0 u1
          have HVE := Lib.hid (show valV b p ki = V from hV.symm)
          have HBN := Lib.hid (show bestN b p j = V - ki * O by unfold bestN; rw [HO.out, hV, HKI.out])
          clear hd hd2 hV
          go_wp2
          have hQ_bx := Lib.hid (Past.cells' (Rd.box (HH.out.get 1 rfl)))
          have hQ_px := Lib.hid (Past.cells' (Rd.box (HH.out.get 0 rfl)))
          refine wp_region_past (by kernel_rfl) (by kernel_rfl) ?_
          repeat (first | (go_big_quiet_want; (first | (first | (refine quiet_load_agg 28 _ rfl ⟨g0_0, 0, none⟩ rfl [.int .i64 b.first, .slice A n cap, .int .i64 b.rate] hQ_bx.out _ Try.underlying28 rfl Bas.size ?_) | (refine quiet_load_agg 35 _ rfl ⟨g0_1, 0, none⟩ rfl [.int .i64 p.kind, .int .i64 p.age, .int .i64 p.years, .int .i64 p.sum, .int .i64 p.load] hQ_px.out _ Try.underlying35 rfl Policy.size ?_))); go_simp; go_big_quiet_on) | go_big_quiet_step ((first | (go_at_call 92; exact past_call ((spec_l12Value_any b A n cap p ki _ (HT.out.at_past _) HY.out).mono (by rw [HVE.out]; exact fun _ _ h => h))) | (go_at_call 98; exact past_call ((spec_l10Office_any b A n cap p _ (HT.out.at_past _) HPO.out).mono (by rw [HO.out]; exact fun _ _ h => h))))))
          refine wpQuiet_nil ?_
          rintro _ ⟨y, rfl⟩
          have hb := y.2
          replace HW := Lib.hid (HW.out.trans (hb.mono HW.out.size))
          replace HB := Lib.hid (below_all HB.out hb)
          replace HT := Lib.hid (HT.out.past hb)
          replace HH := Lib.hid (HH.out.past hb)
          clear hb
          clear hQ_bx hQ_px
          by_cases hj : j = 2
          · skip
            have hxl : xf = false := by rw [HXF.out, hj]; rfl
            subst hxl
            have HN := Lib.hid (show bstP b p (j + 1) = (ki, V - ki * O) by rw [← HBN.out, HKI.out, hj]; rfl)
            clear hj
            have HF3 := Lib.hid (show true = decide (3 ≤ j + 1) by simp; omega)
            go_wp2
            go_roundw
            case rel => exact ⟨j + 1, ki + 1, ki, V - ki * O, ⟨by omega, .inl (by omega)⟩, by have := HKI.out; omega, ⟨fun _ => ⟨by rw [HN.out], by rw [HN.out]⟩, by rw [← HF3.out]⟩, HMS.out, rfl, rfl, by go_num, HW.out⟩
            case measure => have := HKI.out; simp [intOf]; omega
          · skip
            have hj3 : 3 ≤ j := by omega
            have hxl : xf = true := by rw [HXF.out]; simp; omega
            subst hxl
            have hbs := bst_succ (b := b) (p := p) (k := j) hj3
            rw [HBN.out, ← (HXX.out hj3).2, ← HKI.out] at hbs
            by_cases hc : xm < V - ki * O
            · skip
              rw [if_pos hc] at hbs
              have HN := Lib.hid hbs; clear hbs
              have hcb : decide (xm < V - ki * O) = true := by simp; omega
              clear hc
              have HF3 := Lib.hid (show true = decide (3 ≤ j + 1) by simp; omega)
              go_wp2
              go_roundw
              case rel => exact ⟨j + 1, ki + 1, ki, V - ki * O, ⟨by omega, .inl (by omega)⟩, by have := HKI.out; omega, ⟨fun _ => ⟨by rw [HN.out], by rw [HN.out]⟩, by rw [← HF3.out]⟩, HMS.out, rfl, rfl, by go_num, HW.out⟩
              case measure => have := HKI.out; simp [intOf]; omega
            · skip
              rw [if_neg hc] at hbs
              have HN := Lib.hid hbs; clear hbs
              have hcb : decide (xm < V - ki * O) = false := by simp; omega
              clear hc
              have HF3 := Lib.hid (show true = decide (3 ≤ j + 1) by simp; omega)
              go_wp2
              go_roundw
              case rel => exact ⟨j + 1, ki + 1, xb, xm, ⟨by omega, .inl (by omega)⟩, by have := HKI.out; omega, ⟨fun _ => ⟨by rw [HN.out]; exact (HXX.out hj3).1, by rw [HN.out]; exact (HXX.out hj3).2⟩, by rw [← HF3.out]⟩, HMS.out, rfl, rfl, by go_num, HW.out⟩
              case measure => have := HKI.out; simp [intOf]; omega
      · skip
        have hkl : ¬ ki < durP b p := by have := HKI.out; have := HNC.out; omega
        by_cases hj : j = 2
        · skip
          have hxl : xf = false := by rw [HXF.out, hj]; rfl
          subst hxl
          have Q := Lib.hid (QR.out.trans (if_pos (by have := HKI.out; omega)))
          clear hj
          go_wp2
          go_ret3
          exact ⟨by rw [Q.out]; rfl, HB.out⟩
        · skip
          have hj3 : 3 ≤ j := by omega
          have hxl : xf = true := by rw [HXF.out]; simp; omega
          subst hxl
          have hjn2 : j = rlN b p := by omega
          have hbg := bst_ge b p (rlN b p - 3)
          rw [show rlN b p - 3 + 3 = rlN b p by omega] at hbg
          have hM := HMI.out
          rw [hjn2] at hM
          have Q := Lib.hid ((QR.out.trans (if_neg (by have := HNC.out; omega))).trans (if_pos hM))
          have QX := Lib.hid (show ((bestAt b p (rlN b p - 3)).1 : Int) = xb by rw [(HXX.out hj3).1, hjn2, hbg])
          have QM := Lib.hid (show (bestAt b p (rlN b p - 3)).2 = xm by rw [(HXX.out hj3).2, hjn2, hbg])
          clear hbg hM hjn2 hj hj3
          go_wp2
          go_ret3
          exact ⟨by rw [Q.out, QX.out, QM.out]; rfl, HB.out⟩
set_option maxRecDepth 20000 in
set_option maxHeartbeats 8000000 in
theorem impl_OfficePremium_any (b : Bas) (A : Option Addr) (n cap : Nat) (p : Policy) (w : World) (hB : BasT w A n cap b) (hp : p.fits) :
    Calls Try.prog 47 #[.agg #[.int .i64 b.first, .slice A n cap, .int .i64 b.rate], .agg p.row.toArray] w fun e w' => e = .returned (.tuple #[.int .i64 (if polB b p = true then officeP b p else 0), .int .i64 (if polB b p = true then 0 else 1)]) ∧ Below w.heap.size w w' := by
  unfold Policy.row
  have HB := Lib.hid (Below.refl w.heap.size w)
  have HH := Lib.hid (Held.nil w)
  have HT := Lib.hid hB; clear hB
  obtain ⟨hb, hr0, hr1⟩ := box2 (w := w) (tx := 28) (ty := 35) (X := [.int .i64 b.first, .slice A n cap, .int .i64 b.rate]) (Y := [.int .i64 p.kind, .int .i64 p.age, .int .i64 p.years, .int .i64 p.sum, .int .i64 p.load])
  replace HB := Lib.hid (below_all HB.out hb)
  replace HT := Lib.hid (HT.out.past hb)
  replace HH := Lib.hid (((HH.out.past hb).cons hr0).cons hr1)
  clear hb hr0 hr1
  cases h1 : polB b p
  · skip
    go_enter Try.func47, Try.ntmps47
    have HL_bx := Lib.hid (Rd.box (HH.out.get 1 rfl))
    have HL_px := Lib.hid (Rd.box (HH.out.get 0 rfl))
    go_wp2_with (first | (refine wpList_load_agg rfl 28 _ rfl ⟨w.heap.size, 0, none⟩ rfl [.int .i64 b.first, .slice A n cap, .int .i64 b.rate] HL_bx.out _ Try.underlying28 rfl Bas.size ?_) | (refine wpList_load_agg rfl 35 _ rfl ⟨w.heap.size + 1, 0, none⟩ rfl [.int .i64 p.kind, .int .i64 p.age, .int .i64 p.years, .int .i64 p.sum, .int .i64 p.load] HL_px.out _ Try.underlying35 rfl Policy.size ?_))
    clear HL_bx HL_px
    generalize ((w.alloc (.cells #[.int .i64 b.first, .slice A n cap, .int .i64 b.rate] 28)).alloc (.cells #[.int .i64 p.kind, .int .i64 p.age, .int .i64 p.years, .int .i64 p.sum, .int .i64 p.load] 35)) = v0 at HB HH HT ⊢
    generalize w.heap.size + 1 = g0_1 at HH ⊢
    generalize w.heap.size = g0_0 at HH ⊢
    refine (impl_IsPolicy_any b A n cap p _ HT.out hp).mono ?_
    rw [h1]
    rintro e w1 ⟨rfl, hb⟩
    replace HB := Lib.hid (below_all HB.out hb)
    replace HT := Lib.hid (HT.out.past hb)
    replace HH := Lib.hid (HH.out.past hb)
    clear hb
    go_wp2
    go_ret2
    exact ⟨rfl, HB.out⟩
  · skip
    have H1 := Lib.hid h1
    go_enter Try.func47, Try.ntmps47
    have HL_bx := Lib.hid (Rd.box (HH.out.get 1 rfl))
    have HL_px := Lib.hid (Rd.box (HH.out.get 0 rfl))
    go_wp2_with (first | (refine wpList_load_agg rfl 28 _ rfl ⟨w.heap.size, 0, none⟩ rfl [.int .i64 b.first, .slice A n cap, .int .i64 b.rate] HL_bx.out _ Try.underlying28 rfl Bas.size ?_) | (refine wpList_load_agg rfl 35 _ rfl ⟨w.heap.size + 1, 0, none⟩ rfl [.int .i64 p.kind, .int .i64 p.age, .int .i64 p.years, .int .i64 p.sum, .int .i64 p.load] HL_px.out _ Try.underlying35 rfl Policy.size ?_))
    clear HL_bx HL_px
    generalize ((w.alloc (.cells #[.int .i64 b.first, .slice A n cap, .int .i64 b.rate] 28)).alloc (.cells #[.int .i64 p.kind, .int .i64 p.age, .int .i64 p.years, .int .i64 p.sum, .int .i64 p.load] 35)) = v0 at HB HH HT ⊢
    generalize w.heap.size + 1 = g0_1 at HH ⊢
    generalize w.heap.size = g0_0 at HH ⊢
    refine (impl_IsPolicy_any b A n cap p _ HT.out hp).mono ?_
    rw [h1]
    rintro e w1 ⟨rfl, hb⟩
    replace HB := Lib.hid (below_all HB.out hb)
    replace HT := Lib.hid (HT.out.past hb)
    replace HH := Lib.hid (HH.out.past hb)
    clear hb
    have HL_bx := Lib.hid (Rd.box (HH.out.get 1 rfl))
    have HL_px := Lib.hid (Rd.box (HH.out.get 0 rfl))
    go_wp2_with (first | (refine wpList_load_agg rfl 28 _ rfl ⟨g0_0, 0, none⟩ rfl [.int .i64 b.first, .slice A n cap, .int .i64 b.rate] HL_bx.out _ Try.underlying28 rfl Bas.size ?_) | (refine wpList_load_agg rfl 35 _ rfl ⟨g0_1, 0, none⟩ rfl [.int .i64 p.kind, .int .i64 p.age, .int .i64 p.years, .int .i64 p.sum, .int .i64 p.load] HL_px.out _ Try.underlying35 rfl Policy.size ?_))
    clear HL_bx HL_px
    refine (impl_officePremium_any b A n cap p _ HT.out H1.out).mono ?_
    rintro e w2 ⟨rfl, hb⟩
    replace HB := Lib.hid (below_all HB.out hb)
    replace HT := Lib.hid (HT.out.past hb)
    replace HH := Lib.hid (HH.out.past hb)
    clear hb
    go_wp2
    go_ret2
    exact ⟨rfl, HB.out⟩
end Go.Proofs.Ytbjdbpdgacfcpaa
end
