/- Ledgers: which lists are ledgers, turnovers and balances of an account: the program's and the reference's contracts over one plain function each. -/
import Derived.Test.YtlbllonpodckgaaGreatDoorLedgP
namespace Go.Proofs.YtlbllonpodckgaaGreatDoor
open Go.RowKit Go.BigFrame

set_option maxHeartbeats 1000000 in
theorem impl_isEntry_any (x : Entry) (w : World) :
    Calls Tryz.prog 129 #[.agg x.row.toArray] w fun e w' => e = .returned (.bool (entryB x)) ∧ Below w.heap.size w w' := by
  unfold Entry.row
  go_enter Tryz.func129, Tryz.ntmps129
  go_wp2_with (first | (go_at_call 94; refine (impl_inRange_any _ _ _ _).mono ?_; rintro e w' ⟨rfl, rfl⟩) | (go_at_call 176; refine (impl_isMonth_any _ _).mono ?_; rintro e w' ⟨rfl, rfl⟩) | (go_at_call 177; refine (impl_isAccount_any _ _).mono ?_; rintro e w' ⟨rfl, rfl⟩))
  all_goals (go_ret; exact ⟨by simp_all [entryB], (Below.refl _ _).alloc (Nat.le_refl _) _⟩)
set_option maxHeartbeats 1000000 in
theorem spec_l22Entry_any (x : Entry) (w : World) :
    Calls Tryz.prog 59 #[.agg x.row.toArray] w fun e w' => e = .returned (.bool (entryB x)) ∧ Below w.heap.size w w' := by
  unfold Entry.row
  go_enter Tryz.func59, Tryz.ntmps59
  go_wp2_with (first | (go_at_call 121; refine (spec_l01In_any _ _ _ _).mono ?_; rintro e w' ⟨rfl, rfl⟩) | (go_at_call 119; refine (spec_l02Month_any _ _).mono ?_; rintro e w' ⟨rfl, rfl⟩) | (go_at_call 120; refine (spec_l22Account_any _ _).mono ?_; rintro e w' ⟨rfl, rfl⟩))
  all_goals (go_ret; exact ⟨by simp_all [entryB], (Below.refl _ _).alloc (Nat.le_refl _) _⟩)

set_option maxHeartbeats 2000000 in
theorem impl_IsLedger_any (A : Option Addr) (n cap : Nat) (xs : List Entry) (w : World) (hl : xs.length = n) (hn : n ≤ 1048576) (hX : Rd w w.heap.size A 4 (entryRows xs)) (_hf : ∀ x ∈ xs, x.fits) :
    Calls Tryz.prog 70 #[.slice A n cap] w fun e w' => e = .returned (.bool (ledgerB xs)) ∧ Below w.heap.size w w' := by
  have HX := Lib.hid hX; clear hX
  by_cases hlen : n ≤ 150
  rotate_left
  · have e : ledgerB xs = false := by simp [ledgerB, hl]; omega
    rw [e]
    clear e hl
    go_enter Tryz.func70, Tryz.ntmps70
    go_wp2
    go_ret
    exact ⟨rfl, Below.refl _ _⟩
  have HL := Lib.hid hl; clear hl
  go_enter Tryz.func70, Tryz.ntmps70
  go_wp2
  go_loopw [10] (fun i wr => ∃ k : Nat, k ≤ n ∧ i = .int .i64 k ∧ (List.range k).all (okAt xs) = true ∧ Below w.heap.size w wr) (fun i _ => n - (intOf i).toNat)
  case atStart => exact ⟨0, by omega, rfl, rfl, Below.refl _ _⟩
  case round =>
    obtain ⟨k, hk, rfl, hall, hb⟩ := hrel
    have HA := Lib.hid hall; clear hall
    by_cases hlt : k < n
    rotate_left
    · have hkn : k = n := by omega
      subst hkn
      go_wp2
      go_ret
      exact ⟨by rw [ledgerB, HL.out, HA.out]; simp; omega, hb⟩
    obtain ⟨x, hx⟩ := get_of_lt (xs := xs) (k := k) (by rw [HL.out]; exact hlt)
    obtain ⟨ad, rfl, had, _, hc⟩ := (HX.out.below hb).at' (entryRows_get hx)
    have Hc := Lib.hid hc; clear hc
    have Hx := Lib.hid hx; clear hx
    have hkl : k < xs.length := by rw [HL.out]; exact hlt
    have Hkl := Lib.hid hkl; clear hkl
    have hz : wr.heap.size ≤ (wr.alloc (.cells #[.int .i64 x.month, .int .i64 x.debit, .int .i64 x.credit, .int .i64 x.amount] 78)).heap.size := by simp
    have hc0 := fun y : Past (wr.alloc (.cells #[.int .i64 x.month, .int .i64 x.debit, .int .i64 x.credit, .int .i64 x.amount] 78)) => Past.cell (p := ⟨wr.heap.size, 0, none⟩) (v := .int .i64 x.month) (by go_simp) y
    have hc1 := fun y : Past (wr.alloc (.cells #[.int .i64 x.month, .int .i64 x.debit, .int .i64 x.credit, .int .i64 x.amount] 78)) => Past.cell (p := ⟨wr.heap.size, 1, none⟩) (v := .int .i64 x.debit) (by go_simp) y
    have hc2 := fun y : Past (wr.alloc (.cells #[.int .i64 x.month, .int .i64 x.debit, .int .i64 x.credit, .int .i64 x.amount] 78)) => Past.cell (p := ⟨wr.heap.size, 2, none⟩) (v := .int .i64 x.credit) (by go_simp) y
    have hc3 := fun y : Past (wr.alloc (.cells #[.int .i64 x.month, .int .i64 x.debit, .int .i64 x.credit, .int .i64 x.amount] 78)) => Past.cell (p := ⟨wr.heap.size, 3, none⟩) (v := .int .i64 x.amount) (by go_simp) y
    by_cases hp : entryB x = true
    rotate_left
    · have hp' : entryB x = false := by simpa using hp
      clear hp
      go_wp2_with (first | (refine wpList_load_agg rfl 78 _ rfl (ad.add (k * 4)) rfl [.int .i64 x.month, .int .i64 x.debit, .int .i64 x.credit, .int .i64 x.amount] Hc.out _ Tryz.underlying78 rfl Entry.size ?_))
      refine wp_region_past (by kernel_rfl) (by kernel_rfl) ?_
      repeat (go_big_quiet_step ((go_at_call 129; exact past_call ((impl_isEntry_any x _).mono (by rw [hp']; exact fun _ _ h => h)))))
      refine wpQuiet_nil ?_
      rintro _ ⟨y, rfl⟩
      have hb2 : Below w.heap.size w y.1 := (hb.alloc hb.size _).trans (y.2.mono (by have := hb.size; simp; omega))
      go_wp2
      go_ret
      exact ⟨by rw [ledgerB_no Hkl.out (okAt_no Hx.out (.inl hp'))]; rfl, hb2⟩
    by_cases hk0 : k = 0
    · have hd : decide (0 < k) = false := by simp [hk0]
      have Hk0 := Lib.hid hk0; clear hk0
      go_wp2_with (first | (refine wpList_load_agg rfl 78 _ rfl (ad.add (k * 4)) rfl [.int .i64 x.month, .int .i64 x.debit, .int .i64 x.credit, .int .i64 x.amount] Hc.out _ Tryz.underlying78 rfl Entry.size ?_))
      refine wp_region_past (by kernel_rfl) (by kernel_rfl) ?_
      repeat (go_big_quiet_step ((go_at_call 129; exact past_call ((impl_isEntry_any x _).mono (by rw [hp]; exact fun _ _ h => h)))))
      refine wpQuiet_nil ?_
      rintro _ ⟨y, rfl⟩
      have hb2 : Below w.heap.size w y.1 := (hb.alloc hb.size _).trans (y.2.mono (by have := hb.size; simp; omega))
      go_wp2
      go_roundw
      case rel => exact ⟨k + 1, by omega, by go_num, range_succ_all HA.out (okAt_yes Hx.out hp (.inl Hk0.out)), hb2⟩
      case measure => simp [intOf]; omega
    obtain ⟨x', hx'⟩ := get_of_lt (xs := xs) (k := k - 1) (by rw [HL.out]; omega)
    obtain ⟨ad', e', _, _, hc'⟩ := (HX.out.below hb).at' (entryRows_get hx')
    obtain rfl : ad = ad' := by injection e'
    have c0 : wr.cell? (ad.add ((k - 1) * 4)) = some (.int .i64 x'.month) := (Entry.cells hc').1
    have hc4 := fun y : Past (wr.alloc (.cells #[.int .i64 x.month, .int .i64 x.debit, .int .i64 x.credit, .int .i64 x.amount] 78)) => Past.cell (p := ad.add ((k - 1) * 4)) (v := .int .i64 x'.month) ((World.cell?_alloc_lt wr _ _ (block_lt_of_cell c0)).trans c0) y
    have Hm := Lib.hid (monthAt_of hx')
    have hd : decide (0 < k) = true := by simp; omega
    clear hc' hx' c0 e'
    by_cases hm : x.month < x'.month
    · go_wp2_with (first | (refine wpList_load_agg rfl 78 _ rfl (ad.add (k * 4)) rfl [.int .i64 x.month, .int .i64 x.debit, .int .i64 x.credit, .int .i64 x.amount] Hc.out _ Tryz.underlying78 rfl Entry.size ?_))
      refine wp_region_past (by kernel_rfl) (by kernel_rfl) ?_
      repeat (go_big_quiet_step ((go_at_call 129; exact past_call ((impl_isEntry_any x _).mono (by rw [hp]; exact fun _ _ h => h)))))
      refine wpQuiet_nil ?_
      rintro _ ⟨y, rfl⟩
      have hb2 : Below w.heap.size w y.1 := (hb.alloc hb.size _).trans (y.2.mono (by have := hb.size; simp; omega))
      go_wp2
      go_ret
      exact ⟨by rw [ledgerB_no Hkl.out (okAt_no Hx.out (.inr ⟨hk0, by rw [Hm.out]; exact hm⟩))]; rfl, hb2⟩
    · go_wp2_with (first | (refine wpList_load_agg rfl 78 _ rfl (ad.add (k * 4)) rfl [.int .i64 x.month, .int .i64 x.debit, .int .i64 x.credit, .int .i64 x.amount] Hc.out _ Tryz.underlying78 rfl Entry.size ?_))
      refine wp_region_past (by kernel_rfl) (by kernel_rfl) ?_
      repeat (go_big_quiet_step ((go_at_call 129; exact past_call ((impl_isEntry_any x _).mono (by rw [hp]; exact fun _ _ h => h)))))
      refine wpQuiet_nil ?_
      rintro _ ⟨y, rfl⟩
      have hb2 : Below w.heap.size w y.1 := (hb.alloc hb.size _).trans (y.2.mono (by have := hb.size; simp; omega))
      go_wp2
      go_roundw
      case rel => exact ⟨k + 1, by omega, by go_num, range_succ_all HA.out (okAt_yes Hx.out hp (.inr (by rw [Hm.out]; omega))), hb2⟩
      case measure => simp [intOf]; omega

set_option maxHeartbeats 2000000 in
theorem spec_IsLedger_any (A : Option Addr) (n cap : Nat) (xs : List Entry) (w : World) (hl : xs.length = n) (hn : n ≤ 1048576) (hX : Rd w w.heap.size A 4 (entryRows xs)) (_hf : ∀ x ∈ xs, x.fits) :
    Calls Tryz.prog 73 #[.slice A n cap] w fun e w' => e = .returned (.bool (ledgerB xs)) ∧ Below w.heap.size w w' := by
  have HX := Lib.hid hX; clear hX
  have HL := Lib.hid hl; clear hl
  go_enter Tryz.func73, Tryz.ntmps73
  go_wp2
  go_loopw [3] (fun i wr => ∃ k : Nat, k ≤ n ∧ i = .int .i64 k ∧ (List.range k).all (okAt xs) = true ∧ Below w.heap.size w wr) (fun i _ => n - (intOf i).toNat)
  case atStart => exact ⟨0, by omega, rfl, rfl, Below.refl _ _⟩
  case round =>
    obtain ⟨k, hk, rfl, hall, hb⟩ := hrel
    have HA := Lib.hid hall; clear hall
    by_cases hlt : k < n
    rotate_left
    · have hkn : k = n := by omega
      subst hkn
      go_wp2
      go_ret
      exact ⟨by rw [ledgerB, HL.out, HA.out]; simp; omega, hb⟩
    obtain ⟨x, hx⟩ := get_of_lt (xs := xs) (k := k) (by rw [HL.out]; exact hlt)
    obtain ⟨ad, rfl, had, _, hc⟩ := (HX.out.below hb).at' (entryRows_get hx)
    obtain ⟨c0, c1, c2, c3⟩ := Entry.cells hc
    clear hc
    have Hx := Lib.hid hx; clear hx
    have hkl : k < xs.length := by rw [HL.out]; exact hlt
    have Hkl := Lib.hid hkl; clear hkl
    have d0 := fun y : Past wr => Past.cell c0 y
    have d1 := fun y : Past wr => Past.cell c1 y
    have d2 := fun y : Past wr => Past.cell c2 y
    have d3 := fun y : Past wr => Past.cell c3 y
    clear c0 c1 c2 c3
    by_cases hp : entryB x = true
    rotate_left
    · have hp' : entryB x = false := by simpa using hp
      clear hp
      go_wp2
      refine wp_region_past (by kernel_rfl) (by kernel_rfl) ?_
      repeat (go_big_quiet_step ((go_at_call 59; exact past_call ((spec_l22Entry_any x _).mono (by rw [hp']; exact fun _ _ h => h)))))
      refine wpQuiet_nil ?_
      rintro _ ⟨y, rfl⟩
      have hb2 : Below w.heap.size w y.1 := hb.trans (y.2.mono hb.size)
      go_wp2
      go_ret
      exact ⟨by rw [ledgerB_no Hkl.out (okAt_no Hx.out (.inl hp'))]; rfl, hb2⟩
    by_cases hk0 : k = 0
    · have hd : decide (0 < k) = false := by simp [hk0]
      have Hk0 := Lib.hid hk0; clear hk0
      go_wp2
      refine wp_region_past (by kernel_rfl) (by kernel_rfl) ?_
      repeat (go_big_quiet_step ((go_at_call 59; exact past_call ((spec_l22Entry_any x _).mono (by rw [hp]; exact fun _ _ h => h)))))
      refine wpQuiet_nil ?_
      rintro _ ⟨y, rfl⟩
      have hb2 : Below w.heap.size w y.1 := hb.trans (y.2.mono hb.size)
      go_wp2
      go_roundw
      case rel => exact ⟨k + 1, by omega, by go_num, range_succ_all HA.out (okAt_yes Hx.out hp (.inl Hk0.out)), hb2⟩
      case measure => simp [intOf]; omega
    obtain ⟨x', hx'⟩ := get_of_lt (xs := xs) (k := k - 1) (by rw [HL.out]; omega)
    obtain ⟨ad', e', _, _, hc'⟩ := (HX.out.below hb).at' (entryRows_get hx')
    obtain rfl : ad = ad' := by injection e'
    have c0 : wr.cell? (ad.add ((k - 1) * 4)) = some (.int .i64 x'.month) := (Entry.cells hc').1
    have d4 := fun y : Past wr => Past.cell c0 y
    have Hm := Lib.hid (monthAt_of hx')
    have hd : decide (0 < k) = true := by simp; omega
    clear hc' hx' c0 e'
    by_cases hm : x.month < x'.month
    · go_wp2
      refine wp_region_past (by kernel_rfl) (by kernel_rfl) ?_
      repeat (go_big_quiet_step ((go_at_call 59; exact past_call ((spec_l22Entry_any x _).mono (by rw [hp]; exact fun _ _ h => h)))))
      refine wpQuiet_nil ?_
      rintro _ ⟨y, rfl⟩
      have hb2 : Below w.heap.size w y.1 := hb.trans (y.2.mono hb.size)
      go_wp2
      go_ret
      exact ⟨by rw [ledgerB_no Hkl.out (okAt_no Hx.out (.inr ⟨hk0, by rw [Hm.out]; exact hm⟩))]; rfl, hb2⟩
    · go_wp2
      refine wp_region_past (by kernel_rfl) (by kernel_rfl) ?_
      repeat (go_big_quiet_step ((go_at_call 59; exact past_call ((spec_l22Entry_any x _).mono (by rw [hp]; exact fun _ _ h => h)))))
      refine wpQuiet_nil ?_
      rintro _ ⟨y, rfl⟩
      have hb2 : Below w.heap.size w y.1 := hb.trans (y.2.mono hb.size)
      go_wp2
      go_roundw
      case rel => exact ⟨k + 1, by omega, by go_num, range_succ_all HA.out (okAt_yes Hx.out hp (.inr (by rw [Hm.out]; omega))), hb2⟩
      case measure => simp [intOf]; omega
end Go.Proofs.YtlbllonpodckgaaGreatDoor
