/- The law on JournalText: the program's and the reference's results are equal, and the arguments are left as they were. No condition. -/
import Derived.Test.YtbfoolfojeohpaaDoorJour3
import Derived.Test.YtbfoolfojeohpaaDoorJour4
import Derived.Test.YtbfoolfojeohpaaDoorStEntry
import Derived.Test.YtbfoolfojeohpaaDoorLaw
import Derived.Test.YtbfoolfojeohpaaDoorDoorT
import Derived.Test.YtbfoolfojeohpaaDoorBase2
namespace Go.Proofs.YtbfoolfojeohpaaDoor
open Go.ChangeShapes Go.WideShapes Go.ChangeAt Go.RowKit Go.Deep
namespace fnExactJournalText
set_option maxHeartbeats 2000000 in
theorem walk (A0 : Option Addr) (n0 c0 : Nat) (xs0 : List Entry) (w : World) (hn0 : n0 ≤ maxLen) (hl0 : xs0.length = n0) (hX0 : Rd w w.heap.size A0 4 (entryRows (xs0))) (f0 : ∀ x ∈ xs0, x.fits) (hT : Tab w) (hN : Names w) :
    Calls Tryd.prog 3 #[.slice A0 n0 c0] w fun e w' => e = .returned (.bool true) ∧ Below w.heap.size w w' := by
  unfold maxLen at *
  by_cases hs0 : (n0 : Int) ≤ 1048576
  rotate_left
  · clear hX0 f0 hl0 hT hN
    go_enter Tryd.func3, Tryd.ntmps3
    go_wp2_with fail
    refine (szEntryS_no _ _ _ _ _ (by omega) (by omega) (by omega) (by omega)).mono ?_
    rintro e w' ⟨rfl, rfl⟩
    go_wp2
    go_ret
    exact ⟨rfl, Below.refl _ _⟩
  have hs0' : n0 ≤ 1048576 := by omega
  have HX0 := Lib.hid hX0; clear hX0
  have HL0 := Lib.hid hl0; clear hl0
  have HF0 := Lib.hid f0; clear f0
  have HB0 := Lib.hid (Below.refl w.heap.size w)
  have HTab := Lib.hid hT; clear hT
  have HNam := Lib.hid hN; clear hN
  go_enter Tryd.func3, Tryd.ntmps3
  go_wp2_with fail
  refine (szEntryS_yes _ _ _ _ _ (by omega) (by omega)).mono ?_
  rintro e w' ⟨rfl, rfl⟩
  go_wp2_with fail
  refine (toEntryS_any A0 n0 c0 xs0 w hs0' HL0.out ((HX0.out.below HB0.out).more HB0.out.size)).mono ?_
  rintro e w1 ⟨gs0, rfl, hRs0, hb1⟩
  have HRs0 := Lib.hid hRs0; clear hRs0
  have HB1 := Lib.hid (HB0.out.trans (hb1.mono HB0.out.size))
  have hz1 : w.heap.size ≤ w1.heap.size := hb1.size
  clear hb1
  have hws0 := Lib.hid (fun g (hg : some (⟨gs0, 0, none⟩ : Addr) = some ⟨g, 0, none⟩) => HRs0.out.lt hg)
  go_wp2_with fail
  refine (spec_JournalText_any (some ⟨gs0, 0, none⟩) n0 n0 xs0 w1 HL0.out hs0' HRs0.out.rd HF0.out).mono ?_
  rintro e w2 ⟨rfl, hb2⟩
  have HB2 := Lib.hid (HB1.out.trans (hb2.mono HB1.out.size))
  have hz2 : w1.heap.size ≤ w2.heap.size := hb2.size
  replace HRs0 := Lib.hid (HRs0.out.past hb2)
  clear hb2
  go_wp2_with fail
  refine (toEntryS_any A0 n0 c0 xs0 w2 hs0' HL0.out ((HX0.out.below HB2.out).more HB2.out.size)).mono ?_
  rintro e w3 ⟨gx0, rfl, hRx0, hb3⟩
  have HRx0 := Lib.hid hRx0; clear hRx0
  have HB3 := Lib.hid (HB2.out.trans (hb3.mono HB2.out.size))
  have hz3 : w2.heap.size ≤ w3.heap.size := hb3.size
  clear hb3
  have hwx0 := Lib.hid (fun g (hg : some (⟨gx0, 0, none⟩ : Addr) = some ⟨g, 0, none⟩) => HRx0.out.lt hg)
  go_wp2_with fail
  refine (impl_JournalText_any (some ⟨gx0, 0, none⟩) n0 n0 xs0 w3 HL0.out hs0' HRx0.out.rd HF0.out (HTab.out.past HB3.out) (HNam.out.past HB3.out)).mono ?_
  rintro e w4 ⟨rfl, hb4⟩
  have HB4 := Lib.hid (HB3.out.trans (hb4.mono HB3.out.size))
  have hz4 : w3.heap.size ≤ w4.heap.size := hb4.size
  replace HRx0 := Lib.hid (HRx0.out.past hb4)
  clear hb4
  go_wp2_with fail
  refine (toEntryS_any A0 n0 c0 xs0 w4 hs0' HL0.out ((HX0.out.below HB4.out).more HB4.out.size)).mono ?_
  rintro e w5 ⟨gy0, rfl, hRy0, hb5⟩
  have HRy0 := Lib.hid hRy0; clear hRy0
  have HB5 := Lib.hid (HB4.out.trans (hb5.mono HB4.out.size))
  have hz5 : w4.heap.size ≤ w5.heap.size := hb5.size
  replace HRx0 := Lib.hid (HRx0.out.past hb5)
  clear hb5
  have hwy0 := Lib.hid (fun g (hg : some (⟨gy0, 0, none⟩ : Addr) = some ⟨g, 0, none⟩) => HRy0.out.lt hg)
  go_wp2_with fail
  refine (eqEntryS_any (some ⟨gx0, 0, none⟩) (some ⟨gy0, 0, none⟩) n0 n0 n0 xs0 w5 (by omega) HL0.out HRx0.out.rd HRy0.out.rd).mono ?_
  rintro e w6 ⟨rfl, hb6⟩
  have HB6 := Lib.hid (HB5.out.trans (hb6.mono HB5.out.size))
  have hz6 : w5.heap.size ≤ w6.heap.size := hb6.size
  replace HRx0 := Lib.hid (HRx0.out.past hb6)
  replace HRy0 := Lib.hid (HRy0.out.past hb6)
  clear hb6
  go_wp2
  go_ret
  exact ⟨rfl, HB6.out⟩

def layTab (vs : List Value) : Obj → Obj
  | .cells _ t frozen => .cells vs.toArray t frozen
  | o => o
noncomputable def laidWorld (os : Os) : World :=
  { World.holding Tryd.prog os ⟨#[], #[], []⟩ with heap := (((((World.holding Tryd.prog os ⟨#[], #[], []⟩).heap.modify 0 (layTab (valsOf Rows.laid_loop_example_g01025_impl_accountNames))).modify 1 (layTab (valsOf Rows.laid_internal_strconv_uint64pow10))).modify 3 (layTab (valsOf Rows.laid_math_bits_deBruijn32tab))).modify 4 (layTab (valsOf Rows.laid_math_bits_deBruijn64tab))) }
theorem laid_met (os : Os) : laidMet Tryd.prog Rows.fnExactJournalTextRow.laid ((laidWorld os).forCall (fun _ _ => 0) ⟨#[], #[.slice none 0 0], []⟩).memory :=
  laidMet_of_run' 8 (by kernel_rfl) (by kernel_rfl)
theorem reads (os : Os) {H : Type} (enc : TypeId × Value → H) : ∃ places, DataW.whole enc Tryd.prog ((laidWorld os).forCall (fun _ _ => 0) ⟨#[], #[.slice none 0 0], []⟩).memory Tryd.f3.params.toList Rows.fnExactJournalTextSpec.vars false #[Value.slice none 0 0].toList 8 = some ([.nil], [Rows.laid_loop_example_g01025_impl_accountNames], places) :=
  ⟨MemPlace.row ⟨0, 0, none⟩ 10, by kernel_rfl⟩

set_option maxRecDepth 100000 in
theorem lifted (os : Os) (started : os.Started) (H : Type) (enc : TypeId × Value → H) (F : Stop.Interp) :
    ReturnsInHanded {} Tryd.checked os 3 .any ((OpenSpec.ofChange Rows.fnExactJournalTextSpec).preRow enc Tryd.prog Tryd.f3 Rows.fnExactJournalTextRow.domain false Rows.fnExactJournalTextRow.laid) (((OpenSpec.ofChange Rows.fnExactJournalTextSpec).at F).post enc Tryd.prog Tryd.f3 false true false false) := by
  obtain ⟨places, hx⟩ := reads os enc
  refine law_liftedD os started H enc F 4 (by kernel_rfl) Tryd.func3
    (witness_row_at (enc := enc) (C := Tryd.checked) false (laidWorld os) #[.slice none 0 0] rfl (by kernel_rfl) (by kernel_rfl) (by kernel_rfl)
      (OpenSpec.preRow_of_cond 8 hx (by kernel_rfl) (fun k hk => by cases hk) (by kernel_rfl) (laid_met os))) (by kernel_rfl) rfl Tryd.underlying4
    (by rw [Tryd.params3]; simp only [List.forall_mem_cons]; exact ⟨⟨by kernel_rfl, of_decide_eq_true (by kernel_rfl)⟩, by simp⟩) (fun ds gs hl hg => by
      match ds, hl, gs, hg with
      | [d0], _, [g], _ => rfl) ?_
  intro W base args ds p hval hA hL
  obtain ⟨ps, hv, _⟩ := (show laidMet Tryd.prog [("math/bits.deBruijn32tab", Rows.laid_math_bits_deBruijn32tab), ("math/bits.deBruijn64tab", Rows.laid_math_bits_deBruijn64tab), ("internal/strconv.uint64pow10", Rows.laid_internal_strconv_uint64pow10), ("loop.example/g01025/impl.accountNames", Rows.laid_loop_example_g01025_impl_accountNames)] W from hL)
  obtain ⟨q1, hv1⟩ := vars_tail hv
  obtain ⟨q2, hv2⟩ := vars_tail hv1
  obtain ⟨q3, hv3⟩ := vars_tail hv2
  have hT := tab_of_vars hv2
  have hN := names_of_vars hv3
  rw [Tryd.params3] at hA hval
  obtain ⟨v0, vs0, d0, ds0, p0, q0, hargs, rfl, rfl, h0, r0⟩ := trodAll_cons hA
  obtain ⟨rfl, rfl, rfl⟩ := trodAll_nil r0
  obtain rfl : args = #[v0] := by cases args; simp_all
  obtain ⟨A0, n0, c0, rfl⟩ := okWide_slice Tryd.underlying22 (hval 0 22 v0 rfl rfl)
  obtain ⟨fu0, ho0⟩ := h0
  obtain ⟨hn0, rw0, hrl0, hrw0, hRd0⟩ := open_rows Tryd.underlying22 (by kernel_rfl) (by decide) Entry.intCells ho0
  obtain ⟨xs0, hxl0, hxr0, hxf0⟩ := Entry.of_nums rw0 hrw0
  rw [← hxr0] at hRd0
  exact walk A0 n0 c0 xs0 W hn0 (hxl0.trans hrl0) hRd0 hxf0 hT hN
theorem said : Rows.FnExactJournalTextSaid :=
  OpenClaim.holds_of_cond 3 Tryd.f3 rfl rfl rfl rfl rfl rfl rfl ⟨rfl, rfl, rfl, rfl, rfl⟩ rfl rfl rfl rfl rfl (by kernel_rfl) Tryd.func3 (by kernel_rfl)
    (of_decide_eq_true (by kernel_rfl)) (by unfold Func.isWrapper; first | (rw [if_pos (by decide +kernel)]; kernel_rfl) | (rw [if_neg (by decide +kernel)]; exact ⟨rfl, rfl⟩))
    (fun os started H enc _ F => by rw [OpenClaim.pre_eq_preRow]; exact lifted os started H enc F)
theorem plain (f : FuncId) (fn : Func) (hf : Tryd.pinned.checked.prog.funcNamed "loop.example/g01025/laws.FnExactJournalText" = some f) (hfn : Tryd.pinned.checked.prog.funcs[f]? = some fn) :
    false = Tryd.pinned.checked.prog.looks [] ∧ ∀ (j : Nat) t, fn.params[j]? = some t → Tryd.pinned.checked.prog.wantsStandIn t = false := by
  obtain rfl : f = 3 := Option.some.inj ((show Tryd.prog.funcNamed "loop.example/g01025/laws.FnExactJournalText" = some 3 by kernel_rfl).symm.trans hf) |>.symm
  obtain rfl : fn = Tryd.f3 := (Option.some.inj (Tryd.func3.symm.trans hfn)).symm
  refine ⟨by kernel_rfl, fun j t ht => ?_⟩
  rw [Tryd.params3] at ht
  have hm : t ∈ [22] := by simpa using Array.mem_of_getElem? ht
  exact (show ∀ t ∈ [22], Tryd.prog.wantsStandIn t = false by simp only [List.forall_mem_cons]; exact ⟨by kernel_rfl, by simp⟩) t hm
theorem proved : Rows.FnExactJournalTextCardSaid :=
  Claim7.holds_tied_plain_at .later [] _ _ _ _ said (fun _ h => by cases h) (by kernel_rfl) (fun _ h => by cases h) fnExactJournalText_row_tie rfl ⟨rfl, rfl⟩ (by kernel_rfl) rfl plain (by kernel_rfl)
end fnExactJournalText
end Go.Proofs.YtbfoolfojeohpaaDoor
