/- The law on BuildLadder: the program's and the reference's results are equal, and the arguments are left as they were. No condition. -/
import Derived.Test.YtlbllonpodckgaaLadderW
import Derived.Test.YtlbllonpodckgaaLadder
import Derived.Test.YtlbllonpodckgaaStInt
import Derived.Test.YtlbllonpodckgaaStBond
import Derived.Test.YtlbllonpodckgaaLaw
import Derived.Test.YtlbllonpodckgaaBase2
namespace Go.Proofs.Ytlbllonpodckgaa
open Go.ChangeShapes Go.WideShapes Go.ChangeAt Go.RowKit Go.Deep
namespace fnExactBuildLadder
set_option maxHeartbeats 2000000 in
theorem walk (A0 : Option Addr) (n0 c0 : Nat) (xs0 : List Int) (a1 : Int) (w : World) (hn0 : n0 ≤ maxLen) (hl0 : xs0.length = n0) (hX0 : Rd w w.heap.size A0 1 (intRows (xs0))) (f0 : ∀ x ∈ xs0, In64 x) (i1 : In64 a1) :
    Calls Try.prog 4 #[.slice A0 n0 c0, .int .i64 a1] w fun e w' => e = .returned (.bool true) ∧ Below w.heap.size w w' := by
  unfold maxLen at *
  by_cases hs0 : n0 ≤ 1048576
  rotate_left
  · clear hX0 f0 hl0
    go_enter Try.func4, Try.ntmps4
    go_wp2
    go_ret
    exact ⟨rfl, Below.refl _ _⟩
  have hs0' : n0 ≤ 1048576 := hs0
  have HX0 := Lib.hid hX0; clear hX0
  have HL0 := Lib.hid hl0; clear hl0
  have HF0 := Lib.hid f0; clear f0
  have HF1 := Lib.hid i1; clear i1
  have HB0 := Lib.hid (Below.refl w.heap.size w)
  go_enter Try.func4, Try.ntmps4
  go_wp2_with fail
  refine (toInt64S_any A0 n0 c0 xs0 w hs0' HL0.out ((HX0.out.below HB0.out).more HB0.out.size)).mono ?_
  rintro e w1 ⟨gs0, rfl, hRs0, hb1⟩
  have HRs0 := Lib.hid hRs0; clear hRs0
  have HB1 := Lib.hid (HB0.out.trans (hb1.mono HB0.out.size))
  have hz1 : w.heap.size ≤ w1.heap.size := hb1.size
  clear hb1
  have hws0 := Lib.hid (fun g (hg : some (⟨gs0, 0, none⟩ : Addr) = some ⟨g, 0, none⟩) => HRs0.out.lt hg)
  go_wp2_with fail
  refine (spec_BuildLadder_any (some ⟨gs0, 0, none⟩) n0 n0 xs0 a1 w1 HL0.out hs0' HRs0.out.rd HF0.out HF1.out).mono ?_
  rintro e w2 ⟨AW0, nW0, cW0, rfl, hRW0, hb2⟩
  have HRW0 := Lib.hid hRW0; clear hRW0
  have HB2 := Lib.hid (HB1.out.trans (hb2.mono HB1.out.size))
  have hz2 : w1.heap.size ≤ w2.heap.size := hb2.size
  replace HRs0 := Lib.hid (HRs0.out.past hb2)
  clear hb2
  have hwW0 := Lib.hid (fun g (hg : AW0 = some ⟨g, 0, none⟩) => HRW0.out.lt hg)
  have hmW0 : nW0 ≤ 1048576 := by have h1 := HRW0.out.len; rw [bondRows_length] at h1; have := buildLadder_small0 xs0 hs0' HL0.out HF0.out a1; omega
  go_wp2_with fail
  refine (toInt64S_any A0 n0 c0 xs0 w2 hs0' HL0.out ((HX0.out.below HB2.out).more HB2.out.size)).mono ?_
  rintro e w3 ⟨gx0, rfl, hRx0, hb3⟩
  have HRx0 := Lib.hid hRx0; clear hRx0
  have HB3 := Lib.hid (HB2.out.trans (hb3.mono HB2.out.size))
  have hz3 : w2.heap.size ≤ w3.heap.size := hb3.size
  replace HRW0 := Lib.hid (HRW0.out.past hb3)
  clear hb3
  have hwx0 := Lib.hid (fun g (hg : some (⟨gx0, 0, none⟩ : Addr) = some ⟨g, 0, none⟩) => HRx0.out.lt hg)
  go_wp2_with fail
  refine (impl_BuildLadder_any (some ⟨gx0, 0, none⟩) n0 n0 xs0 a1 w3 HL0.out hs0' HRx0.out.rd HF0.out HF1.out).mono ?_
  rintro e w4 ⟨AG0, nG0, cG0, rfl, hRG0, hb4⟩
  have HRG0 := Lib.hid hRG0; clear hRG0
  have HB4 := Lib.hid (HB3.out.trans (hb4.mono HB3.out.size))
  have hz4 : w3.heap.size ≤ w4.heap.size := hb4.size
  replace HRW0 := Lib.hid (HRW0.out.past hb4)
  replace HRx0 := Lib.hid (HRx0.out.past hb4)
  clear hb4
  have hwG0 := Lib.hid (fun g (hg : AG0 = some ⟨g, 0, none⟩) => HRG0.out.lt hg)
  have hmG0 : nG0 ≤ 1048576 := by have h1 := HRG0.out.len; rw [bondRows_length] at h1; have := buildLadder_small0 xs0 hs0' HL0.out HF0.out a1; omega
  obtain rfl : nW0 = nG0 := by have h1 := HRG0.out.len; have h2 := HRW0.out.len; omega
  go_wp2_with fail
  refine (eqBondS_any AG0 AW0 nW0 cG0 cW0 ((ladderP xs0 a1).1) w4 (by omega) (by have := HRG0.out.len; rwa [bondRows_length] at this) HRG0.out.rd HRW0.out.rd).mono ?_
  rintro e w5 ⟨rfl, hb5⟩
  have HB5 := Lib.hid (HB4.out.trans (hb5.mono HB4.out.size))
  have hz5 : w4.heap.size ≤ w5.heap.size := hb5.size
  replace HRW0 := Lib.hid (HRW0.out.past hb5)
  replace HRx0 := Lib.hid (HRx0.out.past hb5)
  replace HRG0 := Lib.hid (HRG0.out.past hb5)
  clear hb5
  go_wp2_with fail
  refine (toInt64S_any A0 n0 c0 xs0 w5 hs0' HL0.out ((HX0.out.below HB5.out).more HB5.out.size)).mono ?_
  rintro e w6 ⟨gy0, rfl, hRy0, hb6⟩
  have HRy0 := Lib.hid hRy0; clear hRy0
  have HB6 := Lib.hid (HB5.out.trans (hb6.mono HB5.out.size))
  have hz6 : w5.heap.size ≤ w6.heap.size := hb6.size
  replace HRW0 := Lib.hid (HRW0.out.past hb6)
  replace HRx0 := Lib.hid (HRx0.out.past hb6)
  replace HRG0 := Lib.hid (HRG0.out.past hb6)
  clear hb6
  have hwy0 := Lib.hid (fun g (hg : some (⟨gy0, 0, none⟩ : Addr) = some ⟨g, 0, none⟩) => HRy0.out.lt hg)
  go_wp2_with fail
  refine (eqInt64S_any (some ⟨gx0, 0, none⟩) (some ⟨gy0, 0, none⟩) n0 n0 n0 xs0 w6 (by omega) HL0.out HRx0.out.rd HRy0.out.rd).mono ?_
  rintro e w7 ⟨rfl, hb7⟩
  have HB7 := Lib.hid (HB6.out.trans (hb7.mono HB6.out.size))
  have hz7 : w6.heap.size ≤ w7.heap.size := hb7.size
  replace HRW0 := Lib.hid (HRW0.out.past hb7)
  replace HRx0 := Lib.hid (HRx0.out.past hb7)
  replace HRG0 := Lib.hid (HRG0.out.past hb7)
  replace HRy0 := Lib.hid (HRy0.out.past hb7)
  clear hb7
  go_wp2_with fail
  refine (markInt64S_at w2.heap.size (some ⟨gx0, 0, none⟩) n0 n0 (1) _ _ w7 hs0' (by omega) HRx0.out (by omega)).mono ?_
  rintro e w8 ⟨rfl, ht8, _⟩
  have HB8 := Lib.hid (HB7.out.trans (ht8.below HB7.out.size (fun g hg => by have := hwx0.out g hg; omega)))
  have hz8 : w7.heap.size ≤ w8.heap.size := ht8.size
  replace HRW0 := Lib.hid (ht8.res HRW0.out (fun g hg hg' => by have := hwx0.out g hg; have := hwW0.out g hg'; omega))
  replace HRG0 := Lib.hid (ht8.res HRG0.out (fun g hg hg' => by have := hwx0.out g hg; have := hwG0.out g hg'; omega))
  clear ht8
  go_wp2_with fail
  refine (eqBondS_any AG0 AW0 nW0 cG0 cW0 ((ladderP xs0 a1).1) w8 (by omega) (by have := HRG0.out.len; rwa [bondRows_length] at this) HRG0.out.rd HRW0.out.rd).mono ?_
  rintro e w9 ⟨rfl, hb9⟩
  have HB9 := Lib.hid (HB8.out.trans (hb9.mono HB8.out.size))
  have hz9 : w8.heap.size ≤ w9.heap.size := hb9.size
  replace HRW0 := Lib.hid (HRW0.out.past hb9)
  replace HRG0 := Lib.hid (HRG0.out.past hb9)
  clear hb9
  go_wp2_with fail
  refine (markBondS_at w3.heap.size AG0 nW0 cG0 1 _ _ w9 (by omega) (by omega) HRG0.out (by omega)).mono ?_
  rintro e w10 ⟨rfl, ht10, hM0⟩
  have HM0 := Lib.hid hM0; clear hM0
  have HB10 := Lib.hid (HB9.out.trans (ht10.below HB9.out.size (fun g hg => by have := hwG0.out g hg; omega)))
  have hz10 : w9.heap.size ≤ w10.heap.size := ht10.size
  replace HRW0 := Lib.hid (ht10.res HRW0.out (fun g hg hg' => by have := hwG0.out g hg; have := hwW0.out g hg'; omega))
  clear ht10
  go_wp2_with fail
  refine (heldBondS_at AG0 nW0 cG0 1 _ _ (by omega) (by omega) HM0.out (by omega)).mono ?_
  rintro e w' ⟨rfl, rfl⟩
  go_wp2_with fail
  refine (toInt64S_any A0 n0 c0 xs0 w10 hs0' HL0.out ((HX0.out.below HB10.out).more HB10.out.size)).mono ?_
  rintro e w11 ⟨gt0, rfl, hRt0, hb11⟩
  have HRt0 := Lib.hid hRt0; clear hRt0
  have HB11 := Lib.hid (HB10.out.trans (hb11.mono HB10.out.size))
  have hz11 : w10.heap.size ≤ w11.heap.size := hb11.size
  replace HRW0 := Lib.hid (HRW0.out.past hb11)
  replace HM0 := Lib.hid (HM0.out.past hb11)
  clear hb11
  have hwt0 := Lib.hid (fun g (hg : some (⟨gt0, 0, none⟩ : Addr) = some ⟨g, 0, none⟩) => HRt0.out.lt hg)
  go_wp2_with fail
  refine (impl_BuildLadder_any (some ⟨gt0, 0, none⟩) n0 n0 xs0 a1 w11 HL0.out hs0' HRt0.out.rd HF0.out HF1.out).mono ?_
  rintro e w12 ⟨AH0, nH0, cH0, rfl, hRH0, hb12⟩
  have HRH0 := Lib.hid hRH0; clear hRH0
  have HB12 := Lib.hid (HB11.out.trans (hb12.mono HB11.out.size))
  have hz12 : w11.heap.size ≤ w12.heap.size := hb12.size
  replace HRW0 := Lib.hid (HRW0.out.past hb12)
  replace HRt0 := Lib.hid (HRt0.out.past hb12)
  replace HM0 := Lib.hid (HM0.out.past hb12)
  clear hb12
  have hwH0 := Lib.hid (fun g (hg : AH0 = some ⟨g, 0, none⟩) => HRH0.out.lt hg)
  have hmH0 : nH0 ≤ 1048576 := by have h1 := HRH0.out.len; rw [bondRows_length] at h1; have := buildLadder_small0 xs0 hs0' HL0.out HF0.out a1; omega
  obtain rfl : nW0 = nH0 := by have h1 := HRH0.out.len; have h2 := HRW0.out.len; omega
  go_wp2_with fail
  refine (eqBondS_any AH0 AW0 nW0 cH0 cW0 ((ladderP xs0 a1).1) w12 (by omega) (by have := HRH0.out.len; rwa [bondRows_length] at this) HRH0.out.rd HRW0.out.rd).mono ?_
  rintro e w13 ⟨rfl, hb13⟩
  have HB13 := Lib.hid (HB12.out.trans (hb13.mono HB12.out.size))
  have hz13 : w12.heap.size ≤ w13.heap.size := hb13.size
  replace HRW0 := Lib.hid (HRW0.out.past hb13)
  replace HRt0 := Lib.hid (HRt0.out.past hb13)
  replace HRH0 := Lib.hid (HRH0.out.past hb13)
  replace HM0 := Lib.hid (HM0.out.past hb13)
  clear hb13
  go_wp2_with fail
  refine (heldBondS_at AG0 nW0 cG0 1 _ _ (by omega) (by omega) HM0.out (by omega)).mono ?_
  rintro e w' ⟨rfl, rfl⟩
  go_wp2
  go_ret
  exact ⟨rfl, HB13.out⟩

set_option maxRecDepth 100000 in
theorem lifted (os : Os) (started : os.Started) (H : Type) (enc : TypeId × Value → H) :
    ReturnsInHanded {} Try.checked os 4 .any (Rows.fnExactBuildLadderSpec.pre6 enc Try.prog Try.f4 Rows.fnExactBuildLadderRow.domain false) (Rows.fnExactBuildLadderSpec.post enc Try.prog Try.f4 false true false false) := by
  refine law_lifted os started H enc 4 (by kernel_rfl) Try.func4
    (ChangeSpec.witness6 (enc := enc) (C := Try.checked) false ⟨#[], #[.slice none 0 0, .int .i64 0], []⟩ 8 (by kernel_rfl) (by kernel_rfl) (by kernel_rfl) (by kernel_rfl)) rfl rfl Try.underlying4
    (by rw [Try.params4]; simp only [List.forall_mem_cons]; exact ⟨⟨by kernel_rfl, of_decide_eq_true (by kernel_rfl)⟩, ⟨by kernel_rfl, of_decide_eq_true (by kernel_rfl)⟩, by simp⟩) (fun ds hl => by
      match ds, hl with
      | [d0, d1], _ => rfl) ?_
  intro W base args ds p hval hA
  rw [Try.params4] at hA hval
  obtain ⟨v0, vs0, d0, ds0, p0, q0, hargs, rfl, rfl, h0, rr0⟩ := trodAll_cons hA
  obtain ⟨v1, vs1, d1, ds1, p1, q1, rfl, rfl, rfl, h1, rr1⟩ := trodAll_cons rr0
  obtain ⟨rfl, rfl, rfl⟩ := trodAll_nil rr1
  obtain rfl : args = #[v0, v1] := by cases args; simp_all
  obtain ⟨A0, n0, c0, rfl⟩ := okWide_slice Try.underlying33 (hval 0 33 v0 rfl rfl)
  obtain ⟨fu0, ho0⟩ := h0
  obtain ⟨hn0, rw0, hrl0, hrw0, hRd0⟩ := open_rows Try.underlying33 (by kernel_rfl) (by decide) (intCells_int Try.underlying2) ho0
  obtain ⟨xs0, hxl0, hxr0, hxf0⟩ := ints_of_nums rw0 hrw0
  rw [← hxr0] at hRd0
  obtain ⟨a1, rfl, rfl, rfl, wf1⟩ := open_int Try.underlying2 (hval 1 2 v1 rfl rfl) h1
  exact walk A0 n0 c0 xs0 a1 W hn0 (hxl0.trans hrl0) hRd0 hxf0 (in64_of_wf wf1)
theorem proved : Rows.FnExactBuildLadderSaid :=
  OpenClaim.holds_of_wide 4 Try.f4 rfl rfl rfl rfl rfl rfl rfl ⟨rfl, rfl, rfl, rfl, rfl⟩ rfl rfl rfl rfl rfl (by kernel_rfl) Try.func4 (by kernel_rfl)
    (of_decide_eq_true (by kernel_rfl)) (by unfold Func.isWrapper; first | (rw [if_pos (by decide +kernel)]; kernel_rfl) | (rw [if_neg (by decide +kernel)]; exact ⟨rfl, rfl⟩))
    (fun os started H enc _ => lifted os started H enc)
end fnExactBuildLadder
end Go.Proofs.Ytlbllonpodckgaa
