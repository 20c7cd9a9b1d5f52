/- What one of many holdings gets in cash: the program's and the reference's contracts over one plain function. -/
import Derived.Test.YtnipndamigpcdaaNum
import Derived.Test.YtnipndamigpcdaaStHolding
namespace Go.Proofs.Ytnipndamigpcdaa
open Go.RowKit Go.BigFrame
def cashEach (h : Holding) (a : Int) : Int × Int × Int :=
  if inR a 0 1000000000 = true ∧ inR h.count 1 1000000 = true then (a / h.count, a % h.count, 0) else (0, 0, 2)
set_option maxHeartbeats 1000000 in
theorem impl_CashEach_any (h : Holding) (a : Int) (w : World) (_hf : h.fits) (_ha : In64 a) :
    Calls Try.prog 10 #[.agg h.row.toArray, .int .i64 a] w fun e w' => e = .returned (.tuple #[.int .i64 (cashEach h a).1, .int .i64 (cashEach h a).2.1, .int .i64 (cashEach h a).2.2]) ∧ Below w.heap.size w w' := by
  by_cases h1 : inR a 0 1000000000 = true
  rotate_left
  · have e : cashEach h a = (0, 0, 2) := by unfold cashEach; rw [if_neg (fun k => h1 k.1)]
    have E := Lib.hid e; clear e
    have h1' : inR a 0 1000000000 = false := by simpa using h1
    clear h1
    unfold Holding.row
    go_enter Try.func10, Try.ntmps10
    go_wp2_with (first | (go_at_call 27; refine (impl_isAmount_any _ _).mono ?_; rintro e w' ⟨rfl, rfl⟩) | (go_at_call 28; refine (impl_inRange_any _ _ _ _).mono ?_; rintro e w' ⟨rfl, rfl⟩))
    go_ret3
    exact ⟨by rw [E.out]; rfl, (Below.refl _ _).alloc (Nat.le_refl _) _⟩
  by_cases h2 : inR h.count 1 1000000 = true
  rotate_left
  · have e : cashEach h a = (0, 0, 2) := by unfold cashEach; rw [if_neg (fun k => h2 k.2)]
    have E := Lib.hid e; clear e
    have h2' : inR h.count 1 1000000 = false := by simpa using h2
    clear h2
    unfold Holding.row
    go_enter Try.func10, Try.ntmps10
    go_wp2_with (first | (go_at_call 27; refine (impl_isAmount_any _ _).mono ?_; rintro e w' ⟨rfl, rfl⟩) | (go_at_call 28; refine (impl_inRange_any _ _ _ _).mono ?_; rintro e w' ⟨rfl, rfl⟩))
    go_ret3
    exact ⟨by rw [E.out]; rfl, (Below.refl _ _).alloc (Nat.le_refl _) _⟩
  have e : cashEach h a = (a / h.count, a % h.count, 0) := by unfold cashEach; rw [if_pos ⟨h1, h2⟩]
  have E := Lib.hid e; clear e
  obtain ⟨q1, q2⟩ := inR_true.1 h1
  obtain ⟨q3, q4⟩ := inR_true.1 h2
  have hc := fun y : Past (w.alloc (.cells #[.int .i64 h.kind, .int .i64 h.age, .int .i64 h.years, .int .i64 h.sum, .int .i64 h.load, .int .i64 h.year, .int .i64 h.count] 30)) => Past.cell (p := ⟨w.heap.size, 6, none⟩) (v := .int .i64 h.count) (by go_simp) y
  have q5 : ¬ h.count = 0 := by omega
  unfold Holding.row
  go_enter Try.func10, Try.ntmps10
  go_wp2_with (first | (go_at_call 27; refine (impl_isAmount_any _ _).mono ?_; rintro e w' ⟨rfl, rfl⟩) | (go_at_call 28; refine (impl_inRange_any _ _ _ _).mono ?_; rintro e w' ⟨rfl, rfl⟩))
  refine wp_region_past (by kernel_rfl) (by kernel_rfl) ?_
  repeat (go_big_quiet_step (fail))
  refine wpQuiet_nil ?_
  rintro _ ⟨y, rfl⟩
  go_wp2
  go_ret3
  exact ⟨by rw [E.out]; rfl, ((Below.refl _ w).alloc (Nat.le_refl _) _).trans (y.2.mono (by simp))⟩
set_option maxHeartbeats 1000000 in
theorem spec_CashEach_any (h : Holding) (a : Int) (w : World) (_hf : h.fits) (_ha : In64 a) :
    Calls Try.prog 8 #[.agg h.row.toArray, .int .i64 a] w fun e w' => e = .returned (.tuple #[.int .i64 (cashEach h a).1, .int .i64 (cashEach h a).2.1, .int .i64 (cashEach h a).2.2]) ∧ Below w.heap.size w w' := by
  by_cases h1 : inR a 0 1000000000 = true
  rotate_left
  · have e : cashEach h a = (0, 0, 2) := by unfold cashEach; rw [if_neg (fun k => h1 k.1)]
    have E := Lib.hid e; clear e
    have h1' : inR a 0 1000000000 = false := by simpa using h1
    clear h1
    unfold Holding.row
    go_enter Try.func8, Try.ntmps8
    go_wp2_with (first | (go_at_call 24; refine (spec_l19Amount_any _ _).mono ?_; rintro e w' ⟨rfl, rfl⟩) | (go_at_call 25; refine (spec_l01In_any _ _ _ _).mono ?_; rintro e w' ⟨rfl, rfl⟩))
    go_ret3
    exact ⟨by rw [E.out]; rfl, (Below.refl _ _).alloc (Nat.le_refl _) _⟩
  by_cases h2 : inR h.count 1 1000000 = true
  rotate_left
  · have e : cashEach h a = (0, 0, 2) := by unfold cashEach; rw [if_neg (fun k => h2 k.2)]
    have E := Lib.hid e; clear e
    have h2' : inR h.count 1 1000000 = false := by simpa using h2
    clear h2
    unfold Holding.row
    go_enter Try.func8, Try.ntmps8
    go_wp2_with (first | (go_at_call 24; refine (spec_l19Amount_any _ _).mono ?_; rintro e w' ⟨rfl, rfl⟩) | (go_at_call 25; refine (spec_l01In_any _ _ _ _).mono ?_; rintro e w' ⟨rfl, rfl⟩))
    go_ret3
    exact ⟨by rw [E.out]; rfl, (Below.refl _ _).alloc (Nat.le_refl _) _⟩
  have e : cashEach h a = (a / h.count, a % h.count, 0) := by unfold cashEach; rw [if_pos ⟨h1, h2⟩]
  have E := Lib.hid e; clear e
  obtain ⟨q1, q2⟩ := inR_true.1 h1
  obtain ⟨q3, q4⟩ := inR_true.1 h2
  have hc := fun y : Past (w.alloc (.cells #[.int .i64 h.kind, .int .i64 h.age, .int .i64 h.years, .int .i64 h.sum, .int .i64 h.load, .int .i64 h.year, .int .i64 h.count] 30)) => Past.cell (p := ⟨w.heap.size, 6, none⟩) (v := .int .i64 h.count) (by go_simp) y
  have q5 : ¬ h.count = 0 := by omega
  unfold Holding.row
  go_enter Try.func8, Try.ntmps8
  go_wp2_with (first | (go_at_call 24; refine (spec_l19Amount_any _ _).mono ?_; rintro e w' ⟨rfl, rfl⟩) | (go_at_call 25; refine (spec_l01In_any _ _ _ _).mono ?_; rintro e w' ⟨rfl, rfl⟩))
  refine wp_region_past (by kernel_rfl) (by kernel_rfl) ?_
  repeat (go_big_quiet_step (fail))
  refine wpQuiet_nil ?_
  rintro _ ⟨y, rfl⟩
  go_wp2
  go_ret3
  exact ⟨by rw [E.out]; rfl, ((Below.refl _ w).alloc (Nat.le_refl _) _).trans (y.2.mono (by simp))⟩
end Go.Proofs.Ytnipndamigpcdaa
