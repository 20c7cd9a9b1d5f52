/- What bonds pay in each year: the program's and the reference's contracts. -/
import Derived.Test.YtlbllonpodckgaaFlowP
import Derived.Test.YtlbllonpodckgaaStInt
import Derived.StillTailTactics
namespace Go.Proofs.Ytlbllonpodckgaa
open Go.RowKit Go.BigFrame

theorem impl_perMille_any (a r : Int) (h : 0 ≤ a * r ∧ a * r ≤ 200000000000) (w : World) :
    Calls Try.prog 41 #[.int .i64 a, .int .i64 r] w fun e w' => e = .returned (.int .i64 (a * r / 1000)) ∧ w = w' := by
  obtain ⟨h1, h2⟩ := h
  go_enter Try.func41, Try.ntmps41
  go_wp2_with (first | (go_at_call 66; refine (impl_down_any _ _ _ (by omega) (by omega) (by omega) (by omega)).mono ?_; rintro e w' ⟨rfl, rfl⟩))
  go_ret
  exact ⟨rfl, rfl⟩

theorem zero_cells : madeCells (Value.int .i64 0).cells (40 * 1) = flowCells fun _ => 0 := by kernel_rfl

set_option maxHeartbeats 4000000 in
set_option maxRecDepth 20000 in
theorem impl_flowOf_any (A : Option Addr) (n cap : Nat) (xs : List Bond) (w : World) (hl : xs.length = n) (hn : n ≤ 30) (hX : Rd w w.heap.size A 3 (bondRows xs)) (hv : ∀ x ∈ xs, bondB x = true) :
    Calls Try.prog 69 #[.slice A n cap] w fun e w' => e = .returned (.slice (some ⟨w.heap.size, 0, none⟩) 40 40) ∧ Blk w' w.heap.size 2 (flowCells (flowAt xs)) ∧ Below w.heap.size w w' := by
  have HX := Lib.hid hX; clear hX
  have HL := Lib.hid hl; clear hl
  have HV := Lib.hid hv; clear hv
  obtain ⟨i0, hi0, hz0, hz1, hz2⟩ := info_parts Int64.info
  have hmk : ∀ W : World, (Instr.makeSlice 33 (.int .i64 40) (.int .i64 40)).run Try.prog W = .ok (.slice (some ⟨W.heap.size, 0, none⟩) 40 40) (W.alloc (.cells (flowCells fun _ => 0) 2)) := fun W => by
    have h := run_make_rowN (P := Try.prog) 33 2 i0 _ Try.underlying33 hi0 hz0 .i64 .i64 40 40 (Nat.le_refl _) (by rw [hz2]; omega) (by omega) W
    rw [hz1, zero_cells] at h
    exact h
  clear hi0 hz0 hz1 hz2
  go_enter Try.func69, Try.ntmps69
  go_wp2
  clear hmk
  go_loopw [10] (fun i wr => ∃ k : Nat, k ≤ n ∧ i = .int .i64 k ∧ Blk wr w.heap.size 2 (flowCells (flowAt (xs.take k))) ∧ Below w.heap.size w wr) (fun i _ => n - (intOf i).toNat)
  case atStart => exact ⟨0, by omega, rfl, Blk.new _ _ _, (Below.refl _ _).alloc (Nat.le_refl _) _⟩
  case round =>
    obtain ⟨k, hk, rfl, hB, hb⟩ := hrel
    have HB := Lib.hid hB; clear hB
    obtain ⟨wo, hwo⟩ : ∃ wo, wo = wr := ⟨wr, rfl⟩
    subst hwo
    by_cases hlt : k < n
    rotate_left
    · have hkn : k = n := by omega
      subst hkn
      go_wp2
      go_ret
      refine ⟨rfl, ?_, hb⟩
      have := HB.out
      rwa [take_all HL.out] at this
    obtain ⟨x, hx⟩ := get_of_lt (xs := xs) (k := k) (by rw [HL.out]; exact hlt)
    obtain ⟨ad, rfl, had, _, hc⟩ := (HX.out.below hb).at' (bondRows_get hx)
    have Hc := Lib.hid hc; clear hc
    have Hx := Lib.hid hx; clear hx
    have hbx := HV.out x (List.mem_of_getElem? Hx.out)
    obtain ⟨⟨n1, n2⟩, ⟨m1, m2⟩, y1, y2⟩ := bond_facts hbx
    obtain ⟨hmul, p1, p2⟩ := payC_bound hbx
    have hlx : w.heap.size < wo.heap.size := HB.out.lt
    have HF := Lib.hid (fun i : Nat => flow_bound (xs := xs.take k) i (fun y hy => HV.out y (List.mem_of_mem_take hy)))
    have hlen : (xs.take k).length ≤ 30 := by simp; omega
    go_wp2_with (first | (refine wpList_load_agg rfl 66 _ rfl (ad.add (k * 3)) rfl [.int .i64 x.nominal, .int .i64 x.coupon, .int .i64 x.years] Hc.out _ Try.underlying66 rfl Bond.size ?_))
    go_loopw [16] (fun i ws => ∃ q : Nat, (q : Int) ≤ x.years ∧ i = .int .i64 q ∧ Blk ws w.heap.size 2 (flowCells fun i => flowAt (xs.take k) i + if i < q then payC x else 0) ∧ Below w.heap.size w ws ∧ ws.cell? ⟨wo.heap.size, 0, none⟩ = some (.int .i64 x.nominal) ∧ ws.cell? ⟨wo.heap.size, 1, none⟩ = some (.int .i64 x.coupon) ∧ ws.cell? ⟨wo.heap.size, 2, none⟩ = some (.int .i64 x.years)) (fun i _ => 40 - (intOf i).toNat)
    case atStart => exact ⟨0, by omega, rfl, by simpa using HB.out.alloc _, hb.alloc hb.size _, by go_simp, by go_simp, by go_simp⟩
    case round =>
      obtain ⟨q, hq, rfl, hB2, hb2, b0, b1, b2⟩ := hrel
      have HB2 := Lib.hid hB2; clear hB2
      by_cases hlq : (q : Int) < x.years
      · have hq40 : q < 40 := by omega
        have hq41 : (q : Int) < 40 := by omega
        have hw1 : IntKind.i64.wrap (flowAt (xs.take k) q + x.nominal * x.coupon / 1000) = flowAt (xs.take k) q + x.nominal * x.coupon / 1000 := IntWalk.i64_in _ (by have := HF.out q; unfold payC at p1 p2; omega)
        have e0 : wr.cell? ⟨w.heap.size, q, none⟩ = some (.int .i64 (flowAt (xs.take k) q)) := by
          rw [HB2.out.cell, flowCells_get _ hq40]; simp
        have e1 : wr.frozen? ⟨w.heap.size, q, none⟩ = false := HB2.out.frozen q
        have hf := HF.out q
        obtain ⟨f1, f2⟩ := hf
        go_wp2
        go_still_tail 11, (by kernel_rfl)
        still_call ((impl_perMille_any x.nominal x.coupon hmul _).mono fun _ _ h => ⟨h.1, h.2.symm⟩)
        repeat still_step
        refine wpStill_nil ?_
        go_wp2
        go_roundw
        case rel =>
          have hh := (HB2.out.set_ q (.int .i64 (flowAt (xs.take k) q + x.nominal * x.coupon / 1000))).drew
          rw [flowCells_set _ hq40] at hh
          refine ⟨q + 1, by omega, by go_num, ?_, (hb2.setCell (Nat.le_refl _) _).drew, ?_, ?_, ?_⟩
          · rw [flowCells_congr (g := fun i => if i = q then flowAt (xs.take k) q + x.nominal * x.coupon / 1000 else flowAt (xs.take k) i + if i < q then payC x else 0)]
            · exact hh
            · intro i _
              by_cases hiq : i = q
              · subst hiq; simp [payC]
              · have : (i < q + 1) = (i < q) := by apply propext; omega
                simp only [this, if_neg hiq]
          · exact (World.cell?_setCell_other wr ⟨w.heap.size, q, none⟩ ⟨wo.heap.size, 0, none⟩ _ (by intro e; injection e with e; omega)).trans b0
          · exact (World.cell?_setCell_other wr ⟨w.heap.size, q, none⟩ ⟨wo.heap.size, 1, none⟩ _ (by intro e; injection e with e; omega)).trans b1
          · exact (World.cell?_setCell_other wr ⟨w.heap.size, q, none⟩ ⟨wo.heap.size, 2, none⟩ _ (by intro e; injection e with e; omega)).trans b2
        case measure => simp [intOf]; omega
      · have hqy : (q : Int) = x.years := by omega
        obtain ⟨t, ht⟩ : ∃ t : Nat, t = x.years.toNat - 1 := ⟨_, rfl⟩
        have ht1 : (t : Int) = x.years - 1 := by omega
        have ht40 : t < 40 := by omega
        have e0 : wr.cell? ⟨w.heap.size, x.years.toNat - 1, none⟩ = some (.int .i64 (flowAt (xs.take k) t + payC x)) := by
          rw [← ht, HB2.out.cell, flowCells_get _ ht40, if_pos (by omega)]
        have e1 : wr.frozen? ⟨w.heap.size, x.years.toNat - 1, none⟩ = false := HB2.out.frozen _
        have hft := HF.out t
        obtain ⟨f1, f2⟩ := hft
        have hq41 : x.years - 1 < 40 := by omega
        have hq42 : 0 ≤ x.years - 1 := by omega
        have hw2 : IntKind.i64.wrap (x.years - 1) = x.years - 1 := IntWalk.i64_in _ (by omega)
        have hw3 : IntKind.i64.wrap (flowAt (xs.take k) t + payC x + x.nominal) = flowAt (xs.take k) t + payC x + x.nominal := IntWalk.i64_in _ (by omega)
        have HT := Lib.hid ht
        have HQ := Lib.hid hqy
        clear ht hqy
        go_wp2
        go_still_tail 10, (by kernel_rfl)
        go_wp2
        go_roundw
        case rel =>
          have hh := (HB2.out.set_ t (.int .i64 (flowAt (xs.take k) t + payC x + x.nominal))).drew
          rw [flowCells_set _ ht40] at hh
          refine ⟨k + 1, by omega, by go_num, ?_, (hb2.setCell (Nat.le_refl _) _).drew⟩
          rw [flowCells_congr (g := fun i => if i = t then flowAt (xs.take k) t + payC x + x.nominal else flowAt (xs.take k) i + if i < q then payC x else 0)]
          · rw [← HT.out]; exact hh
          · intro i _
            rw [flow_snoc Hx.out]
            have hq := HQ.out
            by_cases hiq : i = t
            · subst hiq
              simp only [pay]
              rw [if_pos (by omega), if_pos (by omega), if_pos trivial]; omega
            · simp only [pay]
              rw [if_neg hiq, if_neg (show ¬ (i : Int) + 1 = x.years by omega)]
              by_cases hi2 : (i : Int) < x.years
              · rw [if_pos hi2, if_pos (by omega)]; omega
              · rw [if_neg hi2, if_neg (by omega)]; omega
        case measure => simp [intOf]; omega
set_option maxHeartbeats 4000000 in
set_option maxRecDepth 20000 in
theorem spec_l20Flow_any (A : Option Addr) (n cap : Nat) (xs : List Bond) (w : World) (hl : xs.length = n) (hn : n ≤ 30) (hX : Rd w w.heap.size A 3 (bondRows xs)) (hv : ∀ x ∈ xs, bondB x = true) :
    Calls Try.prog 71 #[.slice A n cap] w fun e w' => e = .returned (.slice (some ⟨w.heap.size, 0, none⟩) 40 40) ∧ Blk w' w.heap.size 2 (flowCells (flowAt xs)) ∧ Below w.heap.size w w' := by
  have HX := Lib.hid hX; clear hX
  have HL := Lib.hid hl; clear hl
  have HV := Lib.hid hv; clear hv
  obtain ⟨i0, hi0, hz0, hz1, hz2⟩ := info_parts Int64.info
  have hmk : ∀ W : World, (Instr.makeSlice 33 (.int .i64 40) (.int .i64 40)).run Try.prog W = .ok (.slice (some ⟨W.heap.size, 0, none⟩) 40 40) (W.alloc (.cells (flowCells fun _ => 0) 2)) := fun W => by
    have h := run_make_rowN (P := Try.prog) 33 2 i0 _ Try.underlying33 hi0 hz0 .i64 .i64 40 40 (Nat.le_refl _) (by rw [hz2]; omega) (by omega) W
    rw [hz1, zero_cells] at h
    exact h
  clear hi0 hz0 hz1 hz2
  go_enter Try.func71, Try.ntmps71
  go_wp2
  clear hmk
  go_loopw [4] (fun i wr => ∃ k : Nat, k ≤ n ∧ i = .int .i64 k ∧ Blk wr w.heap.size 2 (flowCells (flowAt (xs.take k))) ∧ Below w.heap.size w wr) (fun i _ => n - (intOf i).toNat)
  case atStart => exact ⟨0, by omega, rfl, Blk.new _ _ _, (Below.refl _ _).alloc (Nat.le_refl _) _⟩
  case round =>
    obtain ⟨k, hk, rfl, hB, hb⟩ := hrel
    have HB := Lib.hid hB; clear hB
    obtain ⟨wo, hwo⟩ : ∃ wo, wo = wr := ⟨wr, rfl⟩
    subst hwo
    by_cases hlt : k < n
    rotate_left
    · have hkn : k = n := by omega
      subst hkn
      go_wp2
      go_ret
      refine ⟨rfl, ?_, hb⟩
      have := HB.out
      rwa [take_all HL.out] at this
    obtain ⟨x, hx⟩ := get_of_lt (xs := xs) (k := k) (by rw [HL.out]; exact hlt)
    obtain ⟨ad, rfl, had, _, hc⟩ := (HX.out.below hb).at' (bondRows_get hx)
    have Hc := Lib.hid hc; clear hc
    have Hx := Lib.hid hx; clear hx
    have hbx := HV.out x (List.mem_of_getElem? Hx.out)
    obtain ⟨⟨n1, n2⟩, ⟨m1, m2⟩, y1, y2⟩ := bond_facts hbx
    obtain ⟨hmul, p1, p2⟩ := payC_bound hbx
    have hlx : w.heap.size < wo.heap.size := HB.out.lt
    have HF := Lib.hid (fun i : Nat => flow_bound (xs := xs.take k) i (fun y hy => HV.out y (List.mem_of_mem_take hy)))
    have hlen : (xs.take k).length ≤ 30 := by simp; omega
    go_wp2_with (first | (refine wpList_load_agg rfl 66 _ rfl (ad.add (k * 3)) rfl [.int .i64 x.nominal, .int .i64 x.coupon, .int .i64 x.years] Hc.out _ Try.underlying66 rfl Bond.size ?_))
    go_loopw [6] (fun i ws => ∃ q : Nat, (q : Int) ≤ x.years ∧ i = .int .i64 q ∧ Blk ws w.heap.size 2 (flowCells fun i => flowAt (xs.take k) i + if i < q then payC x else 0) ∧ Below w.heap.size w ws ∧ ws.cell? ⟨wo.heap.size, 0, none⟩ = some (.int .i64 x.nominal) ∧ ws.cell? ⟨wo.heap.size, 1, none⟩ = some (.int .i64 x.coupon) ∧ ws.cell? ⟨wo.heap.size, 2, none⟩ = some (.int .i64 x.years)) (fun i _ => 40 - (intOf i).toNat)
    case atStart => exact ⟨0, by omega, rfl, by simpa using HB.out.alloc _, hb.alloc hb.size _, by go_simp, by go_simp, by go_simp⟩
    case round =>
      obtain ⟨q, hq, rfl, hB2, hb2, b0, b1, b2⟩ := hrel
      obtain ⟨hm1, hm2⟩ := hmul
      have HB2 := Lib.hid hB2; clear hB2
      by_cases hlq : (q : Int) < x.years
      · have hq40 : q < 40 := by omega
        have hq41 : (q : Int) < 40 := by omega
        have hw1 : IntKind.i64.wrap (flowAt (xs.take k) q + x.nominal * x.coupon / 1000) = flowAt (xs.take k) q + x.nominal * x.coupon / 1000 := IntWalk.i64_in _ (by have := HF.out q; unfold payC at p1 p2; omega)
        have e0 : wr.cell? ⟨w.heap.size, q, none⟩ = some (.int .i64 (flowAt (xs.take k) q)) := by
          rw [HB2.out.cell, flowCells_get _ hq40]; simp
        have e1 : wr.frozen? ⟨w.heap.size, q, none⟩ = false := HB2.out.frozen q
        have hf := HF.out q
        obtain ⟨f1, f2⟩ := hf
        go_wp2
        go_still_tail 14, (by kernel_rfl)
        go_wp2
        go_roundw
        case rel =>
          have hh := (HB2.out.set_ q (.int .i64 (flowAt (xs.take k) q + x.nominal * x.coupon / 1000))).drew
          rw [flowCells_set _ hq40] at hh
          refine ⟨q + 1, by omega, by go_num, ?_, (hb2.setCell (Nat.le_refl _) _).drew, ?_, ?_, ?_⟩
          · rw [flowCells_congr (g := fun i => if i = q then flowAt (xs.take k) q + x.nominal * x.coupon / 1000 else flowAt (xs.take k) i + if i < q then payC x else 0)]
            · exact hh
            · intro i _
              by_cases hiq : i = q
              · subst hiq; simp [payC]
              · have : (i < q + 1) = (i < q) := by apply propext; omega
                simp only [this, if_neg hiq]
          · exact (World.cell?_setCell_other wr ⟨w.heap.size, q, none⟩ ⟨wo.heap.size, 0, none⟩ _ (by intro e; injection e with e; omega)).trans b0
          · exact (World.cell?_setCell_other wr ⟨w.heap.size, q, none⟩ ⟨wo.heap.size, 1, none⟩ _ (by intro e; injection e with e; omega)).trans b1
          · exact (World.cell?_setCell_other wr ⟨w.heap.size, q, none⟩ ⟨wo.heap.size, 2, none⟩ _ (by intro e; injection e with e; omega)).trans b2
        case measure => simp [intOf]; omega
      · have hqy : (q : Int) = x.years := by omega
        obtain ⟨t, ht⟩ : ∃ t : Nat, t = x.years.toNat - 1 := ⟨_, rfl⟩
        have ht1 : (t : Int) = x.years - 1 := by omega
        have ht40 : t < 40 := by omega
        have e0 : wr.cell? ⟨w.heap.size, x.years.toNat - 1, none⟩ = some (.int .i64 (flowAt (xs.take k) t + payC x)) := by
          rw [← ht, HB2.out.cell, flowCells_get _ ht40, if_pos (by omega)]
        have e1 : wr.frozen? ⟨w.heap.size, x.years.toNat - 1, none⟩ = false := HB2.out.frozen _
        have hft := HF.out t
        obtain ⟨f1, f2⟩ := hft
        have hq41 : x.years - 1 < 40 := by omega
        have hq42 : 0 ≤ x.years - 1 := by omega
        have hw2 : IntKind.i64.wrap (x.years - 1) = x.years - 1 := IntWalk.i64_in _ (by omega)
        have hw3 : IntKind.i64.wrap (flowAt (xs.take k) t + payC x + x.nominal) = flowAt (xs.take k) t + payC x + x.nominal := IntWalk.i64_in _ (by omega)
        have HT := Lib.hid ht
        have HQ := Lib.hid hqy
        clear ht hqy
        go_wp2
        go_still_tail 14, (by kernel_rfl)
        go_wp2
        go_roundw
        case rel =>
          have hh := (HB2.out.set_ t (.int .i64 (flowAt (xs.take k) t + payC x + x.nominal))).drew
          rw [flowCells_set _ ht40] at hh
          refine ⟨k + 1, by omega, by go_num, ?_, (hb2.setCell (Nat.le_refl _) _).drew⟩
          rw [flowCells_congr (g := fun i => if i = t then flowAt (xs.take k) t + payC x + x.nominal else flowAt (xs.take k) i + if i < q then payC x else 0)]
          · rw [← HT.out]; exact hh
          · intro i _
            rw [flow_snoc Hx.out]
            have hq := HQ.out
            by_cases hiq : i = t
            · subst hiq
              simp only [pay]
              rw [if_pos (by omega), if_pos (by omega), if_pos trivial]; omega
            · simp only [pay]
              rw [if_neg hiq, if_neg (show ¬ (i : Int) + 1 = x.years by omega)]
              by_cases hi2 : (i : Int) < x.years
              · rw [if_pos hi2, if_pos (by omega)]; omega
              · rw [if_neg hi2, if_neg (by omega)]; omega
        case measure => simp [intOf]; omega

theorem flow_res {w w' : World} {xs : List Bond} (h : Blk w' w.heap.size 2 (flowCells (flowAt xs))) : Res w.heap.size w' 2 1 (some ⟨w.heap.size, 0, none⟩) 40 40 (intRows (flowL xs)) := by
  refine Filled.res h (fun i r _ hr j v hv => ?_) (by simp [intRows_length, flowL]) (by rw [flowCells_size]) (Nat.le_refl _) (by unfold maxLen; omega) (intRows_all _)
  simp only [intRows, flowL, List.getElem?_map, Option.map_eq_some_iff] at hr
  obtain ⟨z, ⟨a, ha, rfl⟩, rfl⟩ := hr
  obtain ⟨hi, rfl⟩ : i < 40 ∧ i = a := by
    have h1 := (List.getElem?_eq_some_iff.1 ha).1
    have h2 := (List.getElem?_eq_some_iff.1 ha).2
    simp at h1 h2
    exact ⟨h1, h2⟩
  have hj : j = 0 := by have := (List.getElem?_eq_some_iff.1 hv).1; simp at this; exact this
  subst hj
  simp only [List.getElem?_cons_zero, Option.some.injEq] at hv
  subst hv
  rw [Nat.mul_one, Nat.add_zero, flowCells_get _ hi]

end Go.Proofs.Ytlbllonpodckgaa
