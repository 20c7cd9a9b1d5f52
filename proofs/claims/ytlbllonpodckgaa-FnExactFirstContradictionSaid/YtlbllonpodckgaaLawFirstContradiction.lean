/- The law on FirstContradiction: the program's and the reference's results are equal, and the arguments are left as they were. No condition. -/
import Derived.Test.YtlbllonpodckgaaContra4
import Derived.Test.YtlbllonpodckgaaContra5
import Derived.Test.YtlbllonpodckgaaStRule
import Derived.Test.YtlbllonpodckgaaStCase
import Derived.Test.YtlbllonpodckgaaLaw
import Derived.Test.YtlbllonpodckgaaBase2
namespace Go.Proofs.Ytlbllonpodckgaa
open Go.ChangeShapes Go.WideShapes Go.ChangeAt Go.RowKit Go.Deep
namespace fnExactFirstContradiction
set_option maxHeartbeats 2000000 in
theorem walk (A0 : Option Addr) (n0 c0 : Nat) (xs0 : List Rule) (w : World) (hn0 : n0 ≤ maxLen) (hl0 : xs0.length = n0) (hX0 : Rd w w.heap.size A0 6 (ruleRows (xs0))) (f0 : ∀ x ∈ xs0, x.fits) :
    Calls Try.prog 3 #[.slice A0 n0 c0] w fun e w' => e = .returned (.bool true) ∧ Below w.heap.size w w' := by
  unfold maxLen at *
  by_cases hs0 : (n0 : Int) ≤ 1048576
  rotate_left
  · clear hX0 f0 hl0
    go_enter Try.func3, Try.ntmps3
    go_wp2_with fail
    refine (szRuleS_no _ _ _ _ _ (by omega) (by omega) (by omega) (by omega)).mono ?_
    rintro e w' ⟨rfl, rfl⟩
    go_wp2
    go_ret
    exact ⟨rfl, Below.refl _ _⟩
  have hs0' : n0 ≤ 1048576 := by omega
  have HX0 := Lib.hid hX0; clear hX0
  have HL0 := Lib.hid hl0; clear hl0
  have HF0 := Lib.hid f0; clear f0
  have HB0 := Lib.hid (Below.refl w.heap.size w)
  go_enter Try.func3, Try.ntmps3
  go_wp2_with fail
  refine (szRuleS_yes _ _ _ _ _ (by omega) (by omega)).mono ?_
  rintro e w' ⟨rfl, rfl⟩
  go_wp2_with fail
  refine (toRuleS_any A0 n0 c0 xs0 w hs0' HL0.out ((HX0.out.below HB0.out).more HB0.out.size)).mono ?_
  rintro e w1 ⟨gs0, rfl, hRs0, hb1⟩
  have HRs0 := Lib.hid hRs0; clear hRs0
  have HB1 := Lib.hid (HB0.out.trans (hb1.mono HB0.out.size))
  have hz1 : w.heap.size ≤ w1.heap.size := hb1.size
  clear hb1
  have hws0 := Lib.hid (fun g (hg : some (⟨gs0, 0, none⟩ : Addr) = some ⟨g, 0, none⟩) => HRs0.out.lt hg)
  obtain ⟨⟨p1, p2, ⟨q0, q1, q2⟩, p3⟩, hP⟩ : ∃ P, contraP xs0 = P := ⟨_, rfl⟩
  have Hspec := Lib.hid (fun A n cap w hl hn hX hf => (show Calls Try.prog 7 #[.slice A n cap] w fun e w' => e = .returned (.tuple #[.int .i64 p1, .int .i64 p2, .agg #[.int .i64 q0, .int .i64 q1, .int .i64 q2], .int .i64 p3]) ∧ Below w.heap.size w w' from by
    have h9 := spec_FirstContradiction_any A n cap xs0 w hl hn hX hf
    rw [hP] at h9
    exact h9))
  have Himpl := Lib.hid (fun A n cap w hl hn hX hf => (show Calls Try.prog 9 #[.slice A n cap] w fun e w' => e = .returned (.tuple #[.int .i64 p1, .int .i64 p2, .agg #[.int .i64 q0, .int .i64 q1, .int .i64 q2], .int .i64 p3]) ∧ Below w.heap.size w w' from by
    have h9 := impl_FirstContradiction_any A n cap xs0 w hl hn hX hf
    rw [hP] at h9
    exact h9))
  clear hP
  go_wp2_with fail
  refine (Hspec.out (some ⟨gs0, 0, none⟩) n0 n0 w1 HL0.out hs0' HRs0.out.rd HF0.out).mono ?_
  rintro e w2 ⟨rfl, hb2⟩
  have HB2 := Lib.hid (HB1.out.trans (hb2.mono HB1.out.size))
  clear hb2
  have HYw := Lib.hid (Blk.new w2 25 #[.int .i64 q0, .int .i64 q1, .int .i64 q2])
  have hbx : Below w2.heap.size w2 (w2.alloc (.cells #[.int .i64 q0, .int .i64 q1, .int .i64 q2] 25)) := (Below.refl _ _).alloc (Nat.le_refl _) _
  have hzx : (w2.alloc (.cells #[.int .i64 q0, .int .i64 q1, .int .i64 q2] 25)).heap.size = w2.heap.size + 1 := by simp
  have HB3 := Lib.hid (HB2.out.trans (hbx.mono HB2.out.size))
  go_wp2_with fail
  clear hbx
  generalize w2.alloc (.cells #[.int .i64 q0, .int .i64 q1, .int .i64 q2] 25) = w3 at *
  clear HRs0 hws0 hz1
  clear hzx
  refine (toRuleS_any A0 n0 c0 xs0 w3 hs0' HL0.out ((HX0.out.below HB3.out).more HB3.out.size)).mono ?_
  rintro e w4 ⟨gx0, rfl, hRx0, hb4⟩
  have HRx0 := Lib.hid hRx0; clear hRx0
  have HB4 := Lib.hid (HB3.out.trans (hb4.mono HB3.out.size))
  replace HYw := Lib.hid (HYw.out.below' hb4)
  clear hb4
  go_wp2_with fail
  refine (Himpl.out (some ⟨gx0, 0, none⟩) n0 n0 w4 HL0.out hs0' HRx0.out.rd HF0.out).mono ?_
  rintro e w5 ⟨rfl, hb5⟩
  have HB5 := Lib.hid (HB4.out.trans (hb5.mono HB4.out.size))
  replace HYw := Lib.hid (HYw.out.below' hb5)
  replace HRx0 := Lib.hid (HRx0.out.past hb5)
  clear hb5
  have HYg := Lib.hid (Blk.new w5 25 #[.int .i64 q0, .int .i64 q1, .int .i64 q2])
  have hbx : Below w5.heap.size w5 (w5.alloc (.cells #[.int .i64 q0, .int .i64 q1, .int .i64 q2] 25)) := (Below.refl _ _).alloc (Nat.le_refl _) _
  have hzx : (w5.alloc (.cells #[.int .i64 q0, .int .i64 q1, .int .i64 q2] 25)).heap.size = w5.heap.size + 1 := by simp
  have HB6 := Lib.hid (HB5.out.trans (hbx.mono HB5.out.size))
  replace HYw := Lib.hid (HYw.out.below' hbx)
  replace HRx0 := Lib.hid (HRx0.out.past hbx)
  go_upto_region 8 with (fail)
  clear hbx
  generalize w5.alloc (.cells #[.int .i64 q0, .int .i64 q1, .int .i64 q2] 25) = w6 at *
  clear hzx
  have c0 : w6.cell? ⟨w2.heap.size, 0, none⟩ = some (.int .i64 q0) := HYw.out.cell 0
  have d0 : w6.cell? ⟨w5.heap.size, 0, none⟩ = some (.int .i64 q0) := HYg.out.cell 0
  have c1 : w6.cell? ⟨w2.heap.size, 1, none⟩ = some (.int .i64 q1) := HYw.out.cell 1
  have d1 : w6.cell? ⟨w5.heap.size, 1, none⟩ = some (.int .i64 q1) := HYg.out.cell 1
  have c2 : w6.cell? ⟨w2.heap.size, 2, none⟩ = some (.int .i64 q2) := HYw.out.cell 2
  have d2 : w6.cell? ⟨w5.heap.size, 2, none⟩ = some (.int .i64 q2) := HYg.out.cell 2
  go_wp2_with fail
  refine (eqCase_any ⟨q0, q1, q2⟩ _).mono ?_
  rintro e w7 ⟨rfl, hb7⟩
  clear c0 c1 c2 d0 d1 d2
  have HB7 := Lib.hid (HB6.out.trans (hb7.mono HB6.out.size))
  replace HRx0 := Lib.hid (HRx0.out.past hb7)
  clear hb7
  clear HYw HYg
  go_wp2_with fail
  refine (toRuleS_any A0 n0 c0 xs0 w7 hs0' HL0.out ((HX0.out.below HB7.out).more HB7.out.size)).mono ?_
  rintro e w8 ⟨gy0, rfl, hRy0, hb8⟩
  have HRy0 := Lib.hid hRy0; clear hRy0
  have HB8 := Lib.hid (HB7.out.trans (hb8.mono HB7.out.size))
  replace HRx0 := Lib.hid (HRx0.out.past hb8)
  clear hb8
  go_wp2_with fail
  refine (eqRuleS_any (some ⟨gx0, 0, none⟩) (some ⟨gy0, 0, none⟩) n0 n0 n0 xs0 w8 (by omega) HL0.out HRx0.out.rd HRy0.out.rd).mono ?_
  rintro e w9 ⟨rfl, hb9⟩
  have HB9 := Lib.hid (HB8.out.trans (hb9.mono HB8.out.size))
  clear hb9
  go_wp2
  go_ret
  exact ⟨rfl, HB9.out⟩

set_option maxRecDepth 100000 in
theorem lifted (os : Os) (started : os.Started) (H : Type) (enc : TypeId × Value → H) :
    ReturnsInHanded {} Try.checked os 3 .any (Rows.fnExactFirstContradictionSpec.pre6 enc Try.prog Try.f3 Rows.fnExactFirstContradictionRow.domain false) (Rows.fnExactFirstContradictionSpec.post enc Try.prog Try.f3 false true false false) := by
  refine law_lifted os started H enc 4 (by kernel_rfl) Try.func3
    (ChangeSpec.witness6 (enc := enc) (C := Try.checked) false ⟨#[], #[.slice none 0 0], []⟩ 8 (by kernel_rfl) (by kernel_rfl) (by kernel_rfl) (by kernel_rfl)) rfl rfl Try.underlying4
    (by rw [Try.params3]; simp only [List.forall_mem_cons]; exact ⟨⟨by kernel_rfl, of_decide_eq_true (by kernel_rfl)⟩, by simp⟩) (fun ds hl => by
      match ds, hl with
      | [d0], _ => rfl) ?_
  intro W base args ds p hval hA
  rw [Try.params3] at hA hval
  obtain ⟨v0, vs0, d0, ds0, p0, q0, hargs, rfl, rfl, h0, rr0⟩ := trodAll_cons hA
  obtain ⟨rfl, rfl, rfl⟩ := trodAll_nil rr0
  obtain rfl : args = #[v0] := by cases args; simp_all
  obtain ⟨A0, n0, c0, rfl⟩ := okWide_slice Try.underlying22 (hval 0 22 v0 rfl rfl)
  obtain ⟨fu0, ho0⟩ := h0
  obtain ⟨hn0, rw0, hrl0, hrw0, hRd0⟩ := open_rows Try.underlying22 (by kernel_rfl) (by decide) Rule.intCells ho0
  obtain ⟨xs0, hxl0, hxr0, hxf0⟩ := Rule.of_nums rw0 hrw0
  rw [← hxr0] at hRd0
  exact walk A0 n0 c0 xs0 W hn0 (hxl0.trans hrl0) hRd0 hxf0
theorem proved : Rows.FnExactFirstContradictionSaid :=
  OpenClaim.holds_of_wide 3 Try.f3 rfl rfl rfl rfl rfl rfl rfl ⟨rfl, rfl, rfl, rfl, rfl⟩ rfl rfl rfl rfl rfl (by kernel_rfl) Try.func3 (by kernel_rfl)
    (of_decide_eq_true (by kernel_rfl)) (by unfold Func.isWrapper; first | (rw [if_pos (by decide +kernel)]; kernel_rfl) | (rw [if_neg (by decide +kernel)]; exact ⟨rfl, rfl⟩))
    (fun os started H enc _ => lifted os started H enc)
end fnExactFirstContradiction
end Go.Proofs.Ytlbllonpodckgaa
