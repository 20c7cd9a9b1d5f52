/- The law on CashEach: the program's and the reference's results are equal, and the arguments are left as they were. No condition. -/
import Derived.Test.YtnipndamigpcdaaCash
import Derived.Test.YtnipndamigpcdaaStHolding
import Derived.Test.YtnipndamigpcdaaLaw
import Derived.Test.YtnipndamigpcdaaBase2
namespace Go.Proofs.Ytnipndamigpcdaa
open Go.ChangeShapes Go.WideShapes Go.ChangeAt Go.RowKit Go.Deep
namespace fnExactCashEach
set_option maxHeartbeats 2000000 in
theorem walk (r0 : Holding) (a1 : Int) (w : World) (f0 : r0.fits) (i1 : In64 a1) :
    Calls Try.prog 3 #[.agg r0.row.toArray, .int .i64 a1] w fun e w' => e = .returned (.bool true) ∧ Below w.heap.size w w' := by
  have HF0 := Lib.hid f0; clear f0
  have HF1 := Lib.hid i1; clear i1
  have hw0 : Below w.heap.size w (w.alloc (.cells r0.row.toArray 25)) := ((Below.refl _ w).alloc (by simp <;> omega) _)
  have HC := Lib.hid (fun w' (h : Below (w.alloc (.cells r0.row.toArray 25)).heap.size (w.alloc (.cells r0.row.toArray 25)) w') => box_cells (w := w) (wr := w') (row := r0.row) (t := 25) (h.mono (by simp)))
  have HB0 := Lib.hid (Below.refl (w.alloc (.cells r0.row.toArray 25)).heap.size (w.alloc (.cells r0.row.toArray 25)))
  go_enter Try.func3, Try.ntmps3
  go_wp2_with (refine wpList_load_agg rfl 25 _ rfl ⟨w.heap.size, 0, none⟩ rfl r0.row (HC.out _ HB0.out) _ Try.underlying25 rfl Holding.sizeL ?_)
  refine (toHolding_any r0 _).mono ?_
  rintro e w1 ⟨rfl, hb1⟩
  have HB1 := Lib.hid (HB0.out.trans (hb1.mono HB0.out.size))
  have hz1 : (w.alloc (.cells r0.row.toArray 25)).heap.size ≤ w1.heap.size := hb1.size
  clear hb1
  go_wp2_with fail
  refine (spec_CashEach_any r0 a1 w1 HF0.out HF1.out).mono ?_
  rintro e w2 ⟨rfl, hb2⟩
  have HB2 := Lib.hid (HB1.out.trans (hb2.mono HB1.out.size))
  have hz2 : w1.heap.size ≤ w2.heap.size := hb2.size
  clear hb2
  go_wp2_with (refine wpList_load_agg rfl 25 _ rfl ⟨w.heap.size, 0, none⟩ rfl r0.row (HC.out _ HB2.out) _ Try.underlying25 rfl Holding.sizeL ?_)
  refine (toHolding_any r0 _).mono ?_
  rintro e w3 ⟨rfl, hb3⟩
  have HB3 := Lib.hid (HB2.out.trans (hb3.mono HB2.out.size))
  have hz3 : w2.heap.size ≤ w3.heap.size := hb3.size
  clear hb3
  go_wp2_with fail
  refine (impl_CashEach_any r0 a1 w3 HF0.out HF1.out).mono ?_
  rintro e w4 ⟨rfl, hb4⟩
  have HB4 := Lib.hid (HB3.out.trans (hb4.mono HB3.out.size))
  have hz4 : w3.heap.size ≤ w4.heap.size := hb4.size
  clear hb4
  go_wp2
  go_ret
  exact ⟨rfl, hw0.trans (HB4.out.mono hw0.size)⟩

set_option maxRecDepth 100000 in
theorem lifted (os : Os) (started : os.Started) (H : Type) (enc : TypeId × Value → H) :
    ReturnsInHanded {} Try.checked os 3 .any (Rows.fnExactCashEachSpec.pre6 enc Try.prog Try.f3 Rows.fnExactCashEachRow.domain false) (Rows.fnExactCashEachSpec.post enc Try.prog Try.f3 false true false false) := by
  refine law_lifted os started H enc 4 (by kernel_rfl) Try.func3
    (ChangeSpec.witness6 (enc := enc) (C := Try.checked) false ⟨#[], #[.agg #[.int .i64 0, .int .i64 0, .int .i64 0, .int .i64 0, .int .i64 0, .int .i64 0, .int .i64 0], .int .i64 0], []⟩ 8 (by kernel_rfl) (by kernel_rfl) (by kernel_rfl) (by kernel_rfl)) rfl rfl Try.underlying4
    (by rw [Try.params3]; simp only [List.forall_mem_cons]; exact ⟨⟨by kernel_rfl, of_decide_eq_true (by kernel_rfl)⟩, ⟨by kernel_rfl, of_decide_eq_true (by kernel_rfl)⟩, by simp⟩) (fun ds hl => by
      match ds, hl with
      | [d0, d1], _ => rfl) ?_
  intro W base args ds p hval hA
  rw [Try.params3] at hA hval
  obtain ⟨v0, vs0, d0, ds0, p0, q0, hargs, rfl, rfl, h0, rr0⟩ := trodAll_cons hA
  obtain ⟨v1, vs1, d1, ds1, p1, q1, rfl, rfl, rfl, h1, rr1⟩ := trodAll_cons rr0
  obtain ⟨rfl, rfl, rfl⟩ := trodAll_nil rr1
  obtain rfl : args = #[v0, v1] := by cases args; simp_all
  obtain ⟨zs0, rfl, hzl0, hzf0⟩ := open_aggs Try.underlying25 Holding.intCells (hval 0 25 v0 rfl rfl) h0
  obtain ⟨r0, hr0, hrf0⟩ := Holding.of_num hzl0 hzf0
  rw [hr0]
  obtain ⟨a1, rfl, rfl, rfl, wf1⟩ := open_int Try.underlying2 (hval 1 2 v1 rfl rfl) h1
  exact walk r0 a1 W hrf0 (in64_of_wf wf1)
theorem proved : Rows.FnExactCashEachSaid :=
  OpenClaim.holds_of_wide 3 Try.f3 rfl rfl rfl rfl rfl rfl rfl ⟨rfl, rfl, rfl, rfl, rfl⟩ rfl rfl rfl rfl rfl (by kernel_rfl) Try.func3 (by kernel_rfl)
    (of_decide_eq_true (by kernel_rfl)) (by unfold Func.isWrapper; first | (rw [if_pos (by decide +kernel)]; kernel_rfl) | (rw [if_neg (by decide +kernel)]; exact ⟨rfl, rfl⟩))
    (fun os started H enc _ => lifted os started H enc)
end fnExactCashEach
end Go.Proofs.Ytnipndamigpcdaa
