/- The law on MeanTerm: the program's and the reference's results are equal, and the arguments are left as they were. No condition. -/
import Derived.Test.YtncgngocblapoaaBondMarket
import Derived.Test.YtncgngocblapoaaStBond
import Derived.Test.YtncgngocblapoaaLaw
import Derived.Test.YtncgngocblapoaaBase2
namespace Go.Proofs.Ytncgngocblapoaa
open Go.ChangeShapes Go.WideShapes Go.ChangeAt Go.RowKit Go.Deep
namespace fnExactMeanTerm
set_option maxHeartbeats 2000000 in
theorem walk (A0 : Option Addr) (n0 c0 : Nat) (xs0 : List Bond) (a1 : Int) (w : World) (hn0 : n0 ≤ maxLen) (hl0 : xs0.length = n0) (hX0 : Rd w w.heap.size A0 3 (bondRows (xs0))) (f0 : ∀ x ∈ xs0, x.fits) (i1 : In64 a1) :
    Calls Try.prog 11 #[.slice A0 n0 c0, .int .i64 a1] w fun e w' => e = .returned (.bool true) ∧ Below w.heap.size w w' := by
  unfold maxLen at *
  by_cases hs0 : (n0 : Int) ≤ 1048576
  rotate_left
  · clear hX0 f0 hl0
    go_enter Try.func11, Try.ntmps11
    go_wp2_with fail
    refine (szBondS_no _ _ _ _ _ (by omega) (by omega) (by omega) (by omega)).mono ?_
    rintro e w' ⟨rfl, rfl⟩
    go_wp2
    go_ret
    exact ⟨rfl, Below.refl _ _⟩
  have hs0' : n0 ≤ 1048576 := by omega
  have HX0 := Lib.hid hX0; clear hX0
  have HL0 := Lib.hid hl0; clear hl0
  have HF0 := Lib.hid f0; clear f0
  have HF1 := Lib.hid i1; clear i1
  have HB0 := Lib.hid (Below.refl w.heap.size w)
  go_enter Try.func11, Try.ntmps11
  go_wp2_with fail
  refine (szBondS_yes _ _ _ _ _ (by omega) (by omega)).mono ?_
  rintro e w' ⟨rfl, rfl⟩
  go_wp2_with fail
  refine (toBondS_any A0 n0 c0 xs0 w hs0' HL0.out ((HX0.out.below HB0.out).more HB0.out.size)).mono ?_
  rintro e w1 ⟨gs0, rfl, hRs0, hb1⟩
  have HRs0 := Lib.hid hRs0; clear hRs0
  have HB1 := Lib.hid (HB0.out.trans (hb1.mono HB0.out.size))
  have hz1 : w.heap.size ≤ w1.heap.size := hb1.size
  clear hb1
  have hws0 := Lib.hid (fun g (hg : some (⟨gs0, 0, none⟩ : Addr) = some ⟨g, 0, none⟩) => HRs0.out.lt hg)
  go_wp2_with fail
  refine (spec_MeanTerm_any (some ⟨gs0, 0, none⟩) n0 n0 xs0 a1 w1 HL0.out hs0' HRs0.out.rd HF0.out HF1.out).mono ?_
  rintro e w2 ⟨rfl, hb2⟩
  have HB2 := Lib.hid (HB1.out.trans (hb2.mono HB1.out.size))
  have hz2 : w1.heap.size ≤ w2.heap.size := hb2.size
  replace HRs0 := Lib.hid (HRs0.out.past hb2)
  clear hb2
  go_wp2_with fail
  refine (toBondS_any A0 n0 c0 xs0 w2 hs0' HL0.out ((HX0.out.below HB2.out).more HB2.out.size)).mono ?_
  rintro e w3 ⟨gx0, rfl, hRx0, hb3⟩
  have HRx0 := Lib.hid hRx0; clear hRx0
  have HB3 := Lib.hid (HB2.out.trans (hb3.mono HB2.out.size))
  have hz3 : w2.heap.size ≤ w3.heap.size := hb3.size
  clear hb3
  have hwx0 := Lib.hid (fun g (hg : some (⟨gx0, 0, none⟩ : Addr) = some ⟨g, 0, none⟩) => HRx0.out.lt hg)
  go_wp2_with fail
  refine (impl_MeanTerm_any (some ⟨gx0, 0, none⟩) n0 n0 xs0 a1 w3 HL0.out hs0' HRx0.out.rd HF0.out HF1.out).mono ?_
  rintro e w4 ⟨rfl, hb4⟩
  have HB4 := Lib.hid (HB3.out.trans (hb4.mono HB3.out.size))
  have hz4 : w3.heap.size ≤ w4.heap.size := hb4.size
  replace HRx0 := Lib.hid (HRx0.out.past hb4)
  clear hb4
  go_wp2_with fail
  refine (toBondS_any A0 n0 c0 xs0 w4 hs0' HL0.out ((HX0.out.below HB4.out).more HB4.out.size)).mono ?_
  rintro e w5 ⟨gy0, rfl, hRy0, hb5⟩
  have HRy0 := Lib.hid hRy0; clear hRy0
  have HB5 := Lib.hid (HB4.out.trans (hb5.mono HB4.out.size))
  have hz5 : w4.heap.size ≤ w5.heap.size := hb5.size
  replace HRx0 := Lib.hid (HRx0.out.past hb5)
  clear hb5
  have hwy0 := Lib.hid (fun g (hg : some (⟨gy0, 0, none⟩ : Addr) = some ⟨g, 0, none⟩) => HRy0.out.lt hg)
  go_wp2_with fail
  refine (eqBondS_any (some ⟨gx0, 0, none⟩) (some ⟨gy0, 0, none⟩) n0 n0 n0 xs0 w5 (by omega) HL0.out HRx0.out.rd HRy0.out.rd).mono ?_
  rintro e w6 ⟨rfl, hb6⟩
  have HB6 := Lib.hid (HB5.out.trans (hb6.mono HB5.out.size))
  have hz6 : w5.heap.size ≤ w6.heap.size := hb6.size
  replace HRx0 := Lib.hid (HRx0.out.past hb6)
  replace HRy0 := Lib.hid (HRy0.out.past hb6)
  clear hb6
  go_wp2
  go_ret
  exact ⟨rfl, HB6.out⟩

set_option maxRecDepth 100000 in
theorem lifted (os : Os) (started : os.Started) (H : Type) (enc : TypeId × Value → H) :
    ReturnsInHanded {} Try.checked os 11 .any (Rows.fnExactMeanTermSpec.pre6 enc Try.prog Try.f11 Rows.fnExactMeanTermRow.domain false) (Rows.fnExactMeanTermSpec.post enc Try.prog Try.f11 false true false false) := by
  refine law_lifted os started H enc 4 (by kernel_rfl) Try.func11
    (ChangeSpec.witness6 (enc := enc) (C := Try.checked) false ⟨#[], #[.slice none 0 0, .int .i64 0], []⟩ 8 (by kernel_rfl) (by kernel_rfl) (by kernel_rfl) (by kernel_rfl)) rfl rfl Try.underlying4
    (by rw [Try.params11]; simp only [List.forall_mem_cons]; exact ⟨⟨by kernel_rfl, of_decide_eq_true (by kernel_rfl)⟩, ⟨by kernel_rfl, of_decide_eq_true (by kernel_rfl)⟩, by simp⟩) (fun ds hl => by
      match ds, hl with
      | [d0, d1], _ => rfl) ?_
  intro W base args ds p hval hA
  rw [Try.params11] at hA hval
  obtain ⟨v0, vs0, d0, ds0, p0, q0, hargs, rfl, rfl, h0, rr0⟩ := trodAll_cons hA
  obtain ⟨v1, vs1, d1, ds1, p1, q1, rfl, rfl, rfl, h1, rr1⟩ := trodAll_cons rr0
  obtain ⟨rfl, rfl, rfl⟩ := trodAll_nil rr1
  obtain rfl : args = #[v0, v1] := by cases args; simp_all
  obtain ⟨A0, n0, c0, rfl⟩ := okWide_slice Try.underlying22 (hval 0 22 v0 rfl rfl)
  obtain ⟨fu0, ho0⟩ := h0
  obtain ⟨hn0, rw0, hrl0, hrw0, hRd0⟩ := open_rows Try.underlying22 (by kernel_rfl) (by decide) Bond.intCells ho0
  obtain ⟨xs0, hxl0, hxr0, hxf0⟩ := Bond.of_nums rw0 hrw0
  rw [← hxr0] at hRd0
  obtain ⟨a1, rfl, rfl, rfl, wf1⟩ := open_int Try.underlying2 (hval 1 2 v1 rfl rfl) h1
  exact walk A0 n0 c0 xs0 a1 W hn0 (hxl0.trans hrl0) hRd0 hxf0 (in64_of_wf wf1)
theorem proved : Rows.FnExactMeanTermSaid :=
  OpenClaim.holds_of_wide 11 Try.f11 rfl rfl rfl rfl rfl rfl rfl ⟨rfl, rfl, rfl, rfl, rfl⟩ rfl rfl rfl rfl rfl (by kernel_rfl) Try.func11 (by kernel_rfl)
    (of_decide_eq_true (by kernel_rfl)) (by unfold Func.isWrapper; first | (rw [if_pos (by decide +kernel)]; kernel_rfl) | (rw [if_neg (by decide +kernel)]; exact ⟨rfl, rfl⟩))
    (fun os started H enc _ => lifted os started H enc)
end fnExactMeanTerm
end Go.Proofs.Ytncgngocblapoaa
