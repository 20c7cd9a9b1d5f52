/- The law on DecideCase: the program's and the reference's results are equal, and the arguments are left as they were. No condition. -/
import Derived.Test.YtnipndamigpcdaaDec
import Derived.Test.YtnipndamigpcdaaStRule
import Derived.Test.YtnipndamigpcdaaStCase
import Derived.Test.YtnipndamigpcdaaLaw
namespace Go.Proofs.Ytnipndamigpcdaa
open Go.ChangeShapes Go.WideShapes Go.ChangeAt Go.RowKit Go.Deep
namespace fnExactDecideCase
set_option maxHeartbeats 2000000 in
theorem walk (A0 : Option Addr) (n0 c0 : Nat) (xs0 : List Rule) (r1 : Case) (w : World) (hn0 : n0 ≤ maxLen) (hl0 : xs0.length = n0) (hX0 : Rd w w.heap.size A0 6 (ruleRows (xs0))) (f0 : ∀ x ∈ xs0, x.fits) (f1 : r1.fits) :
    Calls Try.prog 6 #[.slice A0 n0 c0, .agg r1.row.toArray] w fun e w' => e = .returned (.bool true) ∧ Below w.heap.size w w' := by
  unfold maxLen at *
  by_cases hs0 : (n0 : Int) ≤ 1048576
  rotate_left
  · clear hX0 f0 hl0
    go_enter Try.func6, Try.ntmps6
    go_wp2_with fail
    refine (szRuleS_no _ _ _ _ _ (by omega) (by omega) (by omega) (by omega)).mono ?_
    rintro e w' ⟨rfl, rfl⟩
    go_wp2
    go_ret
    exact ⟨rfl, ((Below.refl _ w).alloc (by simp <;> omega) _)⟩
  have hs0' : n0 ≤ 1048576 := by omega
  have HX0 := Lib.hid hX0; clear hX0
  have HL0 := Lib.hid hl0; clear hl0
  have HF0 := Lib.hid f0; clear f0
  have HF1 := Lib.hid f1; clear f1
  obtain ⟨W0, hW⟩ : ∃ W0, W0 = (w.alloc (.cells r1.row.toArray 44)) := ⟨_, rfl⟩
  have hw0 : Below w.heap.size w W0 := by rw [hW]; exact ((Below.refl _ w).alloc (by simp <;> omega) _)
  replace HX0 := Lib.hid ((HX0.out.below hw0).more hw0.size)
  have HS := Lib.hid (fun w' (h : Below W0.heap.size W0 w') => (show w'.cell? ⟨w.heap.size, 0, none⟩ = some (.int .i64 r1.age) ∧ w'.cell? ⟨w.heap.size, 1, none⟩ = some (.int .i64 r1.years) ∧ w'.cell? ⟨w.heap.size, 2, none⟩ = some (.int .i64 r1.kind) by
    subst hW
    refine ⟨?_, ?_, ?_⟩ <;> (rw [h.cell (by simp <;> omega)]; simp only [Case.row]; go_simp)))
  have HB0 := Lib.hid (Below.refl W0.heap.size W0)
  go_enter Try.func6, Try.ntmps6
  go_wp2_with fail
  refine (szRuleS_yes _ _ _ _ _ (by omega) (by omega)).mono ?_
  rintro e w' ⟨rfl, rfl⟩
  go_wp2_with fail
  rw [← hW]
  clear hW
  go_wp2_with fail
  have HD := Lib.hid (HB0.out.drew)
  go_region_held3 (fun w' => w'.cell? ⟨w.heap.size, 0, none⟩ = some (.int .i64 r1.age) ∧ w'.cell? ⟨w.heap.size, 1, none⟩ = some (.int .i64 r1.years) ∧ w'.cell? ⟨w.heap.size, 2, none⟩ = some (.int .i64 r1.kind)) (first | exact HS.out _ HB3.out | exact HS.out _ HB2.out | exact HS.out _ HB1.out | exact HS.out _ HD.out) (first | (go_at_call 15; refine (toRuleS_any A0 n0 c0 xs0 W0.drew hs0' HL0.out (Rd.drew ((HX0.out.below HB0.out).more HB0.out.size))).mono ?_; rintro e w1 ⟨gs0, rfl, hRs0, hb1⟩; replace hb1 := of_drew hb1; have HRs0 := Lib.hid hRs0; clear hRs0; have HB1 := Lib.hid (HB0.out.trans (hb1.mono HB0.out.size)); have hz1 : W0.heap.size ≤ w1.heap.size := hb1.size; clear hb1; have hws0 := Lib.hid (fun g (hg : some (⟨gs0, 0, none⟩ : Addr) = some ⟨g, 0, none⟩) => HRs0.out.lt hg)) | (go_at_call 19; refine (toCase_any r1 _).mono ?_; rintro e w2 ⟨rfl, hb2⟩; have HB2 := Lib.hid (HB1.out.trans (hb2.mono HB1.out.size)); have hz2 : w1.heap.size ≤ w2.heap.size := hb2.size; replace HRs0 := Lib.hid (HRs0.out.past hb2); clear hb2) | (go_at_call 18; refine (spec_DecideCase_any (some ⟨gs0, 0, none⟩) n0 n0 xs0 r1 _ HL0.out hs0' HRs0.out.rd HF0.out HF1.out).mono ?_; rintro e w3 ⟨rfl, hb3⟩; have HB3 := Lib.hid (HB2.out.trans (hb3.mono HB2.out.size)); have hz3 : w2.heap.size ≤ w3.heap.size := hb3.size; replace HRs0 := Lib.hid (HRs0.out.past hb3); clear hb3))
  go_wp2_with fail
  refine (toRuleS_any A0 n0 c0 xs0 w3 hs0' HL0.out ((HX0.out.below HB3.out).more HB3.out.size)).mono ?_
  rintro e w4 ⟨gx0, rfl, hRx0, hb4⟩
  have HRx0 := Lib.hid hRx0; clear hRx0
  have HB4 := Lib.hid (HB3.out.trans (hb4.mono HB3.out.size))
  have hz4 : w3.heap.size ≤ w4.heap.size := hb4.size
  clear hb4
  have hwx0 := Lib.hid (fun g (hg : some (⟨gx0, 0, none⟩ : Addr) = some ⟨g, 0, none⟩) => HRx0.out.lt hg)
  obtain ⟨hq0, hq1, hq2⟩ := HS.out _ HB4.out
  go_wp2_with fail
  refine (toCase_any r1 _).mono ?_
  rintro e w5 ⟨rfl, hb5⟩
  have HB5 := Lib.hid (HB4.out.trans (hb5.mono HB4.out.size))
  have hz5 : w4.heap.size ≤ w5.heap.size := hb5.size
  replace HRx0 := Lib.hid (HRx0.out.past hb5)
  clear hb5
  clear hq0 hq1 hq2
  go_wp2_with fail
  refine (impl_DecideCase_any (some ⟨gx0, 0, none⟩) n0 n0 xs0 r1 w5 HL0.out hs0' HRx0.out.rd HF0.out HF1.out).mono ?_
  rintro e w6 ⟨rfl, hb6⟩
  have HB6 := Lib.hid (HB5.out.trans (hb6.mono HB5.out.size))
  have hz6 : w5.heap.size ≤ w6.heap.size := hb6.size
  replace HRx0 := Lib.hid (HRx0.out.past hb6)
  clear hb6
  go_wp2_with fail
  refine (toRuleS_any A0 n0 c0 xs0 w6 hs0' HL0.out ((HX0.out.below HB6.out).more HB6.out.size)).mono ?_
  rintro e w7 ⟨gy0, rfl, hRy0, hb7⟩
  have HRy0 := Lib.hid hRy0; clear hRy0
  have HB7 := Lib.hid (HB6.out.trans (hb7.mono HB6.out.size))
  have hz7 : w6.heap.size ≤ w7.heap.size := hb7.size
  replace HRx0 := Lib.hid (HRx0.out.past hb7)
  clear hb7
  have hwy0 := Lib.hid (fun g (hg : some (⟨gy0, 0, none⟩ : Addr) = some ⟨g, 0, none⟩) => HRy0.out.lt hg)
  go_wp2_with fail
  refine (eqRuleS_any (some ⟨gx0, 0, none⟩) (some ⟨gy0, 0, none⟩) n0 n0 n0 xs0 w7 (by omega) HL0.out HRx0.out.rd HRy0.out.rd).mono ?_
  rintro e w8 ⟨rfl, hb8⟩
  have HB8 := Lib.hid (HB7.out.trans (hb8.mono HB7.out.size))
  have hz8 : w7.heap.size ≤ w8.heap.size := hb8.size
  replace HRx0 := Lib.hid (HRx0.out.past hb8)
  replace HRy0 := Lib.hid (HRy0.out.past hb8)
  clear hb8
  go_wp2
  go_ret
  exact ⟨rfl, hw0.trans (HB8.out.mono hw0.size)⟩

set_option maxRecDepth 100000 in
theorem lifted (os : Os) (started : os.Started) (H : Type) (enc : TypeId × Value → H) :
    ReturnsInHanded {} Try.checked os 6 .any (Rows.fnExactDecideCaseSpec.pre6 enc Try.prog Try.f6 Rows.fnExactDecideCaseRow.domain false) (Rows.fnExactDecideCaseSpec.post enc Try.prog Try.f6 false true false false) := by
  refine law_lifted os started H enc 4 (by kernel_rfl) Try.func6
    (ChangeSpec.witness6 (enc := enc) (C := Try.checked) false ⟨#[], #[.slice none 0 0, .agg #[.int .i64 0, .int .i64 0, .int .i64 0]], []⟩ 8 (by kernel_rfl) (by kernel_rfl) (by kernel_rfl) (by kernel_rfl)) rfl rfl Try.underlying4
    (by rw [Try.params6]; simp only [List.forall_mem_cons]; exact ⟨⟨by kernel_rfl, of_decide_eq_true (by kernel_rfl)⟩, ⟨by kernel_rfl, of_decide_eq_true (by kernel_rfl)⟩, by simp⟩) (fun ds hl => by
      match ds, hl with
      | [d0, d1], _ => rfl) ?_
  intro W base args ds p hval hA
  rw [Try.params6] at hA hval
  obtain ⟨v0, vs0, d0, ds0, p0, q0, hargs, rfl, rfl, h0, r0⟩ := trodAll_cons hA
  obtain ⟨v1, vs1, d1, ds1, p1, q1, rfl, rfl, rfl, h1, r1⟩ := trodAll_cons r0
  obtain ⟨rfl, rfl, rfl⟩ := trodAll_nil r1
  obtain rfl : args = #[v0, v1] := by cases args; simp_all
  obtain ⟨A0, n0, c0, rfl⟩ := okWide_slice Try.underlying36 (hval 0 36 v0 rfl rfl)
  obtain ⟨fu0, ho0⟩ := h0
  obtain ⟨hn0, rw0, hrl0, hrw0, hRd0⟩ := open_rows Try.underlying36 (by kernel_rfl) (by decide) Rule.intCells ho0
  obtain ⟨xs0, hxl0, hxr0, hxf0⟩ := Rule.of_nums rw0 hrw0
  rw [← hxr0] at hRd0
  obtain ⟨zs1, rfl, hzl1, hzf1⟩ := open_aggs Try.underlying44 Case.intCells (hval 1 44 v1 rfl rfl) h1
  obtain ⟨r1, hr1, hrf1⟩ := Case.of_num hzl1 hzf1
  rw [hr1]
  exact walk A0 n0 c0 xs0 r1 W hn0 (hxl0.trans hrl0) hRd0 hxf0 hrf1
theorem proved : Rows.FnExactDecideCaseSaid :=
  OpenClaim.holds_of_wide 6 Try.f6 rfl rfl rfl rfl rfl rfl rfl ⟨rfl, rfl, rfl, rfl, rfl⟩ rfl rfl rfl rfl rfl (by kernel_rfl) Try.func6 (by kernel_rfl)
    (of_decide_eq_true (by kernel_rfl)) (by unfold Func.isWrapper; first | (rw [if_pos (by decide +kernel)]; kernel_rfl) | (rw [if_neg (by decide +kernel)]; exact ⟨rfl, rfl⟩))
    (fun os started H enc _ => lifted os started H enc)
end fnExactDecideCase
end Go.Proofs.Ytnipndamigpcdaa
