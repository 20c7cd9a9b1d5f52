/- The law on DoCover: the program's and the reference's results are equal, and the arguments are left as they were. No condition. -/
import Derived.Test.YtncgngocblapoaaKept2
import Derived.Test.YtncgngocblapoaaStBond
import Derived.Test.YtncgngocblapoaaStInt
import Derived.Test.YtncgngocblapoaaLaw
import Derived.Test.YtncgngocblapoaaBase2
namespace Go.Proofs.Ytncgngocblapoaa
open Go.ChangeShapes Go.WideShapes Go.ChangeAt Go.RowKit Go.Deep
namespace fnExactDoCover
set_option maxHeartbeats 2000000 in
theorem walk (A0 : Option Addr) (n0 c0 : Nat) (xs0 : List Bond) (A1 : Option Addr) (n1 c1 : Nat) (xs1 : List Int) (a2 : Int) (w : World) (hn0 : n0 ≤ maxLen) (hl0 : xs0.length = n0) (hX0 : Rd w w.heap.size A0 3 (bondRows (xs0))) (f0 : ∀ x ∈ xs0, x.fits) (hn1 : n1 ≤ maxLen) (hl1 : xs1.length = n1) (hX1 : Rd w w.heap.size A1 1 (intRows (xs1))) (f1 : ∀ x ∈ xs1, In64 x) (i2 : In64 a2) :
    Calls Try.prog 7 #[.slice A0 n0 c0, .slice A1 n1 c1, .int .i64 a2] w fun e w' => e = .returned (.bool true) ∧ Below w.heap.size w w' := by
  unfold maxLen at *
  by_cases hs1 : n1 ≤ 1048576
  rotate_left
  · clear hX0 f0 hl0 hX1 f1 hl1
    go_enter Try.func7, Try.ntmps7
    go_wp2
    go_ret
    exact ⟨rfl, Below.refl _ _⟩
  by_cases hs0 : (n0 : Int) ≤ 1048576
  rotate_left
  · clear hX0 f0 hl0 hX1 f1 hl1
    go_enter Try.func7, Try.ntmps7
    go_wp2_with fail
    refine (szBondS_no _ _ _ _ _ (by omega) (by omega) (by omega) (by omega)).mono ?_
    rintro e w' ⟨rfl, rfl⟩
    go_wp2
    go_ret
    exact ⟨rfl, Below.refl _ _⟩
  have hs0' : n0 ≤ 1048576 := by omega
  have HX0 := Lib.hid hX0; clear hX0
  have HL0 := Lib.hid hl0; clear hl0
  have HF0 := Lib.hid f0; clear f0
  have hs1' : n1 ≤ 1048576 := hs1
  have HX1 := Lib.hid hX1; clear hX1
  have HL1 := Lib.hid hl1; clear hl1
  have HF1 := Lib.hid f1; clear f1
  have HF2 := Lib.hid i2; clear i2
  have HB0 := Lib.hid (Below.refl w.heap.size w)
  go_enter Try.func7, Try.ntmps7
  go_wp2_with fail
  refine (szBondS_yes _ _ _ _ _ (by omega) (by omega)).mono ?_
  rintro e w' ⟨rfl, rfl⟩
  go_wp2_with fail
  refine (toBondS_any A0 n0 c0 xs0 w hs0' HL0.out ((HX0.out.below HB0.out).more HB0.out.size)).mono ?_
  rintro e w1 ⟨gs0, rfl, hRs0, hb1⟩
  have HRs0 := Lib.hid hRs0; clear hRs0
  have HB1 := Lib.hid (HB0.out.trans (hb1.mono HB0.out.size))
  have hz1 : w.heap.size ≤ w1.heap.size := hb1.size
  clear hb1
  have hws0 := Lib.hid (fun g (hg : some (⟨gs0, 0, none⟩ : Addr) = some ⟨g, 0, none⟩) => HRs0.out.lt hg)
  go_wp2_with fail
  refine (toInt64S_any A1 n1 c1 xs1 w1 hs1' HL1.out ((HX1.out.below HB1.out).more HB1.out.size)).mono ?_
  rintro e w2 ⟨gs1, rfl, hRs1, hb2⟩
  have HRs1 := Lib.hid hRs1; clear hRs1
  have HB2 := Lib.hid (HB1.out.trans (hb2.mono HB1.out.size))
  have hz2 : w1.heap.size ≤ w2.heap.size := hb2.size
  replace HRs0 := Lib.hid (HRs0.out.past hb2)
  clear hb2
  have hws1 := Lib.hid (fun g (hg : some (⟨gs1, 0, none⟩ : Addr) = some ⟨g, 0, none⟩) => HRs1.out.lt hg)
  go_wp2_with fail
  refine (spec_DoCover_any (some ⟨gs0, 0, none⟩) n0 n0 xs0 (some ⟨gs1, 0, none⟩) n1 n1 xs1 a2 w2 HL0.out hs0' HRs0.out.rd HF0.out HL1.out hs1' HRs1.out.rd HF1.out HF2.out).mono ?_
  rintro e w3 ⟨rfl, hb3⟩
  have HB3 := Lib.hid (HB2.out.trans (hb3.mono HB2.out.size))
  have hz3 : w2.heap.size ≤ w3.heap.size := hb3.size
  replace HRs0 := Lib.hid (HRs0.out.past hb3)
  replace HRs1 := Lib.hid (HRs1.out.past hb3)
  clear hb3
  go_wp2_with fail
  refine (toBondS_any A0 n0 c0 xs0 w3 hs0' HL0.out ((HX0.out.below HB3.out).more HB3.out.size)).mono ?_
  rintro e w4 ⟨gx0, rfl, hRx0, hb4⟩
  have HRx0 := Lib.hid hRx0; clear hRx0
  have HB4 := Lib.hid (HB3.out.trans (hb4.mono HB3.out.size))
  have hz4 : w3.heap.size ≤ w4.heap.size := hb4.size
  clear hb4
  have hwx0 := Lib.hid (fun g (hg : some (⟨gx0, 0, none⟩ : Addr) = some ⟨g, 0, none⟩) => HRx0.out.lt hg)
  go_wp2_with fail
  refine (toInt64S_any A1 n1 c1 xs1 w4 hs1' HL1.out ((HX1.out.below HB4.out).more HB4.out.size)).mono ?_
  rintro e w5 ⟨gx1, rfl, hRx1, hb5⟩
  have HRx1 := Lib.hid hRx1; clear hRx1
  have HB5 := Lib.hid (HB4.out.trans (hb5.mono HB4.out.size))
  have hz5 : w4.heap.size ≤ w5.heap.size := hb5.size
  replace HRx0 := Lib.hid (HRx0.out.past hb5)
  clear hb5
  have hwx1 := Lib.hid (fun g (hg : some (⟨gx1, 0, none⟩ : Addr) = some ⟨g, 0, none⟩) => HRx1.out.lt hg)
  go_wp2_with fail
  refine (impl_DoCover_any (some ⟨gx0, 0, none⟩) n0 n0 xs0 (some ⟨gx1, 0, none⟩) n1 n1 xs1 a2 w5 HL0.out hs0' HRx0.out.rd HF0.out HL1.out hs1' HRx1.out.rd HF1.out HF2.out).mono ?_
  rintro e w6 ⟨rfl, hb6⟩
  have HB6 := Lib.hid (HB5.out.trans (hb6.mono HB5.out.size))
  have hz6 : w5.heap.size ≤ w6.heap.size := hb6.size
  replace HRx0 := Lib.hid (HRx0.out.past hb6)
  replace HRx1 := Lib.hid (HRx1.out.past hb6)
  clear hb6
  go_wp2_with fail
  refine (toBondS_any A0 n0 c0 xs0 w6 hs0' HL0.out ((HX0.out.below HB6.out).more HB6.out.size)).mono ?_
  rintro e w7 ⟨gy0, rfl, hRy0, hb7⟩
  have HRy0 := Lib.hid hRy0; clear hRy0
  have HB7 := Lib.hid (HB6.out.trans (hb7.mono HB6.out.size))
  have hz7 : w6.heap.size ≤ w7.heap.size := hb7.size
  replace HRx0 := Lib.hid (HRx0.out.past hb7)
  replace HRx1 := Lib.hid (HRx1.out.past hb7)
  clear hb7
  have hwy0 := Lib.hid (fun g (hg : some (⟨gy0, 0, none⟩ : Addr) = some ⟨g, 0, none⟩) => HRy0.out.lt hg)
  go_wp2_with fail
  refine (eqBondS_any (some ⟨gx0, 0, none⟩) (some ⟨gy0, 0, none⟩) n0 n0 n0 xs0 w7 (by omega) HL0.out HRx0.out.rd HRy0.out.rd).mono ?_
  rintro e w8 ⟨rfl, hb8⟩
  have HB8 := Lib.hid (HB7.out.trans (hb8.mono HB7.out.size))
  have hz8 : w7.heap.size ≤ w8.heap.size := hb8.size
  replace HRx0 := Lib.hid (HRx0.out.past hb8)
  replace HRx1 := Lib.hid (HRx1.out.past hb8)
  replace HRy0 := Lib.hid (HRy0.out.past hb8)
  clear hb8
  go_wp2_with fail
  refine (toInt64S_any A1 n1 c1 xs1 w8 hs1' HL1.out ((HX1.out.below HB8.out).more HB8.out.size)).mono ?_
  rintro e w9 ⟨gy1, rfl, hRy1, hb9⟩
  have HRy1 := Lib.hid hRy1; clear hRy1
  have HB9 := Lib.hid (HB8.out.trans (hb9.mono HB8.out.size))
  have hz9 : w8.heap.size ≤ w9.heap.size := hb9.size
  replace HRx0 := Lib.hid (HRx0.out.past hb9)
  replace HRx1 := Lib.hid (HRx1.out.past hb9)
  clear hb9
  have hwy1 := Lib.hid (fun g (hg : some (⟨gy1, 0, none⟩ : Addr) = some ⟨g, 0, none⟩) => HRy1.out.lt hg)
  go_wp2_with fail
  refine (eqInt64S_any (some ⟨gx1, 0, none⟩) (some ⟨gy1, 0, none⟩) n1 n1 n1 xs1 w9 (by omega) HL1.out HRx1.out.rd HRy1.out.rd).mono ?_
  rintro e w10 ⟨rfl, hb10⟩
  have HB10 := Lib.hid (HB9.out.trans (hb10.mono HB9.out.size))
  have hz10 : w9.heap.size ≤ w10.heap.size := hb10.size
  replace HRx0 := Lib.hid (HRx0.out.past hb10)
  replace HRx1 := Lib.hid (HRx1.out.past hb10)
  replace HRy1 := Lib.hid (HRy1.out.past hb10)
  clear hb10
  go_wp2
  go_ret
  exact ⟨rfl, HB10.out⟩

set_option maxRecDepth 100000 in
theorem lifted (os : Os) (started : os.Started) (H : Type) (enc : TypeId × Value → H) :
    ReturnsInHanded {} Try.checked os 7 .any (Rows.fnExactDoCoverSpec.pre6 enc Try.prog Try.f7 Rows.fnExactDoCoverRow.domain false) (Rows.fnExactDoCoverSpec.post enc Try.prog Try.f7 false true false false) := by
  refine law_lifted os started H enc 4 (by kernel_rfl) Try.func7
    (ChangeSpec.witness6 (enc := enc) (C := Try.checked) false ⟨#[], #[.slice none 0 0, .slice none 0 0, .int .i64 0], []⟩ 8 (by kernel_rfl) (by kernel_rfl) (by kernel_rfl) (by kernel_rfl)) rfl rfl Try.underlying4
    (by rw [Try.params7]; simp only [List.forall_mem_cons]; exact ⟨⟨by kernel_rfl, of_decide_eq_true (by kernel_rfl)⟩, ⟨by kernel_rfl, of_decide_eq_true (by kernel_rfl)⟩, ⟨by kernel_rfl, of_decide_eq_true (by kernel_rfl)⟩, by simp⟩) (fun ds hl => by
      match ds, hl with
      | [d0, d1, d2], _ => rfl) ?_
  intro W base args ds p hval hA
  rw [Try.params7] at hA hval
  obtain ⟨v0, vs0, d0, ds0, p0, q0, hargs, rfl, rfl, h0, rr0⟩ := trodAll_cons hA
  obtain ⟨v1, vs1, d1, ds1, p1, q1, rfl, rfl, rfl, h1, rr1⟩ := trodAll_cons rr0
  obtain ⟨v2, vs2, d2, ds2, p2, q2, rfl, rfl, rfl, h2, rr2⟩ := trodAll_cons rr1
  obtain ⟨rfl, rfl, rfl⟩ := trodAll_nil rr2
  obtain rfl : args = #[v0, v1, v2] := by cases args; simp_all
  obtain ⟨A0, n0, c0, rfl⟩ := okWide_slice Try.underlying22 (hval 0 22 v0 rfl rfl)
  obtain ⟨fu0, ho0⟩ := h0
  obtain ⟨hn0, rw0, hrl0, hrw0, hRd0⟩ := open_rows Try.underlying22 (by kernel_rfl) (by decide) Bond.intCells ho0
  obtain ⟨xs0, hxl0, hxr0, hxf0⟩ := Bond.of_nums rw0 hrw0
  rw [← hxr0] at hRd0
  obtain ⟨A1, n1, c1, rfl⟩ := okWide_slice Try.underlying29 (hval 1 29 v1 rfl rfl)
  obtain ⟨fu1, ho1⟩ := h1
  obtain ⟨hn1, rw1, hrl1, hrw1, hRd1⟩ := open_rows Try.underlying29 (by kernel_rfl) (by decide) (intCells_int Try.underlying2) ho1
  obtain ⟨xs1, hxl1, hxr1, hxf1⟩ := ints_of_nums rw1 hrw1
  rw [← hxr1] at hRd1
  obtain ⟨a2, rfl, rfl, rfl, wf2⟩ := open_int Try.underlying2 (hval 2 2 v2 rfl rfl) h2
  exact walk A0 n0 c0 xs0 A1 n1 c1 xs1 a2 W hn0 (hxl0.trans hrl0) hRd0 hxf0 hn1 (hxl1.trans hrl1) hRd1 hxf1 (in64_of_wf wf2)
theorem proved : Rows.FnExactDoCoverSaid :=
  OpenClaim.holds_of_wide 7 Try.f7 rfl rfl rfl rfl rfl rfl rfl ⟨rfl, rfl, rfl, rfl, rfl⟩ rfl rfl rfl rfl rfl (by kernel_rfl) Try.func7 (by kernel_rfl)
    (of_decide_eq_true (by kernel_rfl)) (by unfold Func.isWrapper; first | (rw [if_pos (by decide +kernel)]; kernel_rfl) | (rw [if_neg (by decide +kernel)]; exact ⟨rfl, rfl⟩))
    (fun os started H enc _ => lifted os started H enc)
end fnExactDoCover
end Go.Proofs.Ytncgngocblapoaa
