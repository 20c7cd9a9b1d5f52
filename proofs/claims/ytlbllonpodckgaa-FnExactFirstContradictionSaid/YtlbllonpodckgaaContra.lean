/- The first case that two rules share, the first contradiction: the program's and the reference's contracts. -/
import Derived.Test.YtlbllonpodckgaaContraP
import Derived.Test.YtlbllonpodckgaaTail
namespace Go.Proofs.Ytlbllonpodckgaa
open Go.RowKit Go.BigFrame

theorem Blk.aggr {w : World} {g : Nat} {t : TypeId} {cs : List Value} (h : Blk w g t cs.toArray) : ∀ (j : Nat) (v : Value), cs[j]? = some v → w.cell? ((⟨g, 0, none⟩ : Addr).add j) = some v := by
  intro j v hv
  rw [add_none, h.cell]; simpa using hv
theorem com_first {a b : Rule} {k : Nat} (hk : k < 4) (hb : ∀ j : Int, 0 ≤ j → j < (k : Int) → comB a b j = false) (h : comB a b (k : Int) = true) : comP a b = some (comC a b (k : Int)) := by
  have h0 := fun (j : Int) (h1 : 0 ≤ j) (h2 : j < (k : Int)) => hb j h1 h2
  rcases (show k = 0 ∨ k = 1 ∨ k = 2 ∨ k = 3 by omega) with rfl | rfl | rfl | rfl
  · have h' : comB a b 0 = true := h
    simp [comP, h']
  · have e0 := h0 0 (by omega) (by omega)
    have h' : comB a b 1 = true := h
    simp [comP, e0, h']
  · have e0 := h0 0 (by omega) (by omega)
    have e1 := h0 1 (by omega) (by omega)
    have h' : comB a b 2 = true := h
    simp [comP, e0, e1, h']
  · have e0 := h0 0 (by omega) (by omega)
    have e1 := h0 1 (by omega) (by omega)
    have e2 := h0 2 (by omega) (by omega)
    have h' : comB a b 3 = true := h
    simp [comP, e0, e1, e2, h']
theorem com_none {a b : Rule} (hb : ∀ j : Int, 0 ≤ j → j < 4 → comB a b j = false) : comP a b = none := by
  simp [comP, hb 0 (by omega) (by omega), hb 1 (by omega) (by omega), hb 2 (by omega) (by omega), hb 3 (by omega) (by omega)]
theorem no_succ {P : Int → Bool} {k : Nat} (h : ∀ j : Int, 0 ≤ j → j < (k : Int) → P j = false) (hk : P (k : Int) = false) : ∀ j : Int, 0 ≤ j → j < ((k + 1 : Nat) : Int) → P j = false := by
  intro j h1 h2
  rcases Int.lt_or_le j (k : Int) with h3 | h3
  · exact h j h1 h3
  · have : j = (k : Int) := by omega
    rw [this]; exact hk
theorem rule_bounds {r : Rule} (h : ruleB r = true) : (0 ≤ r.ageFrom ∧ r.ageFrom ≤ 150) ∧ (0 ≤ r.yearsFrom ∧ r.yearsFrom ≤ 99) ∧ (1 ≤ r.kinds ∧ r.kinds ≤ 15) ∧ (0 ≤ r.outcome ∧ r.outcome ≤ 9) := by
  simp [ruleB, inR] at h; omega
theorem case_fits {x y k : Int} (hx : 0 ≤ x ∧ x ≤ 150) (hy : 0 ≤ y ∧ y ≤ 99) (hk : 0 ≤ k ∧ k ≤ 4) : (⟨x, y, k⟩ : Case).fits := by
  show In64 x ∧ In64 y ∧ In64 k
  unfold In64; omega


set_option maxRecDepth 100000 in
set_option maxHeartbeats 8000000 in
theorem impl_firstCommon_any (r s : Rule) (hr : ruleB r = true) (hs : ruleB s = true) (w : World) :
    Calls Try.prog 32 #[.agg r.row.toArray, .agg s.row.toArray] w fun e w' => ∃ c : Case, e = .returned (.tuple #[.agg #[.int .i64 c.age, .int .i64 c.years, .int .i64 c.kind], .bool (comP r s).isSome]) ∧ (∀ d, comP r s = some d → c = d) ∧ c.fits ∧ Below w.heap.size w w' := by
  unfold Rule.row
  obtain ⟨ra, ry, rk, ro⟩ := rule_bounds hr
  obtain ⟨sa, sy, sk, so⟩ := rule_bounds hs
  go_enter Try.func32, Try.ntmps32
  go_wp2
  · have HC := Lib.hid (show ∀ k, comC r s k = ⟨s.ageFrom, s.yearsFrom, k⟩ from fun k => by unfold comC; rw [show max r.ageFrom s.ageFrom = s.ageFrom by omega, show max r.yearsFrom s.yearsFrom = s.yearsFrom by omega])
    have hbw : Below w.heap.size w ((((w.alloc (.cells #[.int .i64 r.ageFrom, .int .i64 r.ageTo, .int .i64 r.yearsFrom, .int .i64 r.yearsTo, .int .i64 r.kinds, .int .i64 r.outcome] 58)).alloc (.cells #[.int .i64 s.ageFrom, .int .i64 s.ageTo, .int .i64 s.yearsFrom, .int .i64 s.yearsTo, .int .i64 s.kinds, .int .i64 s.outcome] 58)).alloc (.cells #[.int .i64 0, .int .i64 0, .int .i64 0] 25)).alloc (.cells #[.int .i64 s.ageFrom, .int .i64 s.yearsFrom, .int .i64 0] 25)) := ((((Below.refl _ w).alloc (Nat.le_refl _) _).alloc (by simp) _).alloc (by simp <;> omega) _).alloc (by simp <;> omega) _
    have HBR := Lib.hid ((((Blk.new w 58 #[.int .i64 r.ageFrom, .int .i64 r.ageTo, .int .i64 r.yearsFrom, .int .i64 r.yearsTo, .int .i64 r.kinds, .int .i64 r.outcome]).alloc (.cells #[.int .i64 s.ageFrom, .int .i64 s.ageTo, .int .i64 s.yearsFrom, .int .i64 s.yearsTo, .int .i64 s.kinds, .int .i64 s.outcome] 58)).alloc (.cells #[.int .i64 0, .int .i64 0, .int .i64 0] 25)).alloc (.cells #[.int .i64 s.ageFrom, .int .i64 s.yearsFrom, .int .i64 0] 25))
    have HBS := Lib.hid (((Blk.new (w.alloc (.cells #[.int .i64 r.ageFrom, .int .i64 r.ageTo, .int .i64 r.yearsFrom, .int .i64 r.yearsTo, .int .i64 r.kinds, .int .i64 r.outcome] 58)) 58 #[.int .i64 s.ageFrom, .int .i64 s.ageTo, .int .i64 s.yearsFrom, .int .i64 s.yearsTo, .int .i64 s.kinds, .int .i64 s.outcome]).alloc (.cells #[.int .i64 0, .int .i64 0, .int .i64 0] 25)).alloc (.cells #[.int .i64 s.ageFrom, .int .i64 s.yearsFrom, .int .i64 0] 25))
    have HBZ := Lib.hid ((Blk.new ((w.alloc (.cells #[.int .i64 r.ageFrom, .int .i64 r.ageTo, .int .i64 r.yearsFrom, .int .i64 r.yearsTo, .int .i64 r.kinds, .int .i64 r.outcome] 58)).alloc (.cells #[.int .i64 s.ageFrom, .int .i64 s.ageTo, .int .i64 s.yearsFrom, .int .i64 s.yearsTo, .int .i64 s.kinds, .int .i64 s.outcome] 58)) 25 #[.int .i64 0, .int .i64 0, .int .i64 0]).alloc (.cells #[.int .i64 s.ageFrom, .int .i64 s.yearsFrom, .int .i64 0] 25))
    have HBC := Lib.hid (Blk.new (((w.alloc (.cells #[.int .i64 r.ageFrom, .int .i64 r.ageTo, .int .i64 r.yearsFrom, .int .i64 r.yearsTo, .int .i64 r.kinds, .int .i64 r.outcome] 58)).alloc (.cells #[.int .i64 s.ageFrom, .int .i64 s.ageTo, .int .i64 s.yearsFrom, .int .i64 s.yearsTo, .int .i64 s.kinds, .int .i64 s.outcome] 58)).alloc (.cells #[.int .i64 0, .int .i64 0, .int .i64 0] 25)) 25 #[.int .i64 s.ageFrom, .int .i64 s.yearsFrom, .int .i64 0])
    simp only [World.size_alloc] at HBS HBZ HBC
    have HXB := Lib.hid (show (0 ≤ s.ageFrom ∧ s.ageFrom ≤ 150) ∧ (0 ≤ s.yearsFrom ∧ s.yearsFrom ≤ 99) from ⟨by omega, by omega⟩)
    have HBW := Lib.hid hbw
    generalize ((((w.alloc (.cells #[.int .i64 r.ageFrom, .int .i64 r.ageTo, .int .i64 r.yearsFrom, .int .i64 r.yearsTo, .int .i64 r.kinds, .int .i64 r.outcome] 58)).alloc (.cells #[.int .i64 s.ageFrom, .int .i64 s.ageTo, .int .i64 s.yearsFrom, .int .i64 s.yearsTo, .int .i64 s.kinds, .int .i64 s.outcome] 58)).alloc (.cells #[.int .i64 0, .int .i64 0, .int .i64 0] 25)).alloc (.cells #[.int .i64 s.ageFrom, .int .i64 s.yearsFrom, .int .i64 0] 25)) = W at HBR HBS HBZ HBC HBW ⊢
    clear hbw
    go_loopw [19] (fun i wr => ∃ (k : Nat) (q : Int), k ≤ 4 ∧ i = .int .i64 k ∧ (∀ j : Int, 0 ≤ j → j < (k : Int) → comB r s j = false) ∧ Hid (Blk wr (w.heap.size) 58 #[.int .i64 r.ageFrom, .int .i64 r.ageTo, .int .i64 r.yearsFrom, .int .i64 r.yearsTo, .int .i64 r.kinds, .int .i64 r.outcome]) ∧ Hid (Blk wr (w.heap.size + 1) 58 #[.int .i64 s.ageFrom, .int .i64 s.ageTo, .int .i64 s.yearsFrom, .int .i64 s.yearsTo, .int .i64 s.kinds, .int .i64 s.outcome]) ∧ Hid (Blk wr (w.heap.size + 1 + 1) 25 #[.int .i64 0, .int .i64 0, .int .i64 0]) ∧ Hid (Blk wr (w.heap.size + 1 + 1 + 1) 25 #[.int .i64 s.ageFrom, .int .i64 s.yearsFrom, .int .i64 q]) ∧ Hid (Below w.heap.size w wr)) (fun i _ => 4 - (intOf i).toNat)
    case atStart => exact ⟨0, 0, by omega, rfl, fun j h1 h2 => by simp at h2; omega, HBR, HBS, HBZ, HBC, HBW⟩
    case round =>
      obtain ⟨k, q, hk, rfl, hno, HBR, HBS, HBZ, HBC, HBW⟩ := hrel
      have HN := Lib.hid hno; clear hno
      by_cases hlt : k < 4
      · have hki : (k : Int) < 4 := by omega
        have c3 : wr.cell? ⟨w.heap.size + 1 + 1 + 1, 2, none⟩ = some (.int .i64 q) := HBC.out.cell 2
        have z3 : wr.frozen? ⟨w.heap.size + 1 + 1 + 1, 2, none⟩ = false := HBC.out.frozen 2
        have HBC5 := Lib.hid (show Blk (wr.setCell ⟨w.heap.size + 1 + 1 + 1, 2, none⟩ (.int .i64 (k : Int))) (w.heap.size + 1 + 1 + 1) 25 #[.int .i64 s.ageFrom, .int .i64 s.yearsFrom, .int .i64 (k : Int)] by simpa using HBC.out.set_ 2 (.int .i64 (k : Int)))
        have HBR5 := Lib.hid (HBR.out.far (p := ⟨w.heap.size + 1 + 1 + 1, 2, none⟩) (by show w.heap.size ≠ w.heap.size + 1 + 1 + 1; omega) (.int .i64 (k : Int)))
        have HBS5 := Lib.hid (HBS.out.far (p := ⟨w.heap.size + 1 + 1 + 1, 2, none⟩) (by show w.heap.size + 1 ≠ w.heap.size + 1 + 1 + 1; omega) (.int .i64 (k : Int)))
        have HBZ5 := Lib.hid (HBZ.out.far (p := ⟨w.heap.size + 1 + 1 + 1, 2, none⟩) (by show w.heap.size + 1 + 1 ≠ w.heap.size + 1 + 1 + 1; omega) (.int .i64 (k : Int)))
        have HBW5 := Lib.hid (HBW.out.setCell (p := ⟨w.heap.size + 1 + 1 + 1, 2, none⟩) (by show w.heap.size ≤ w.heap.size + 1 + 1 + 1; omega) (.int .i64 (k : Int)))
        have hcR := Lib.hid (Blk.aggr (cs := [.int .i64 r.ageFrom, .int .i64 r.ageTo, .int .i64 r.yearsFrom, .int .i64 r.yearsTo, .int .i64 r.kinds, .int .i64 r.outcome]) HBR5.out)
        have hcC := Lib.hid (Blk.aggr (cs := [.int .i64 s.ageFrom, .int .i64 s.yearsFrom, .int .i64 (k : Int)]) HBC5.out)
        cases hA : appliesB r ⟨s.ageFrom, s.yearsFrom, (k : Int)⟩
        · have HF := Lib.hid (show comB r s (k : Int) = false by unfold comB; rw [HC.out, hA]; rfl)
          go_wp2_with (first | (refine wpList_load_agg rfl 58 _ rfl ⟨w.heap.size, 0, none⟩ rfl [.int .i64 r.ageFrom, .int .i64 r.ageTo, .int .i64 r.yearsFrom, .int .i64 r.yearsTo, .int .i64 r.kinds, .int .i64 r.outcome] hcR.out _ Try.underlying58 rfl Rule.size ?_) | (refine wpList_load_agg rfl 25 _ rfl ⟨w.heap.size + 1 + 1 + 1, 0, none⟩ rfl [.int .i64 s.ageFrom, .int .i64 s.yearsFrom, .int .i64 (k : Int)] hcC.out _ Try.underlying25 rfl Case.size ?_))
          refine (impl_applies_any r ⟨s.ageFrom, s.yearsFrom, (k : Int)⟩ hr ⟨by simp, by simp; omega⟩ _).mono ?_
          rw [hA]
          rintro e w2 ⟨rfl, hb2⟩
          have HBR9 := Lib.hid (HBR5.out.below' hb2)
          have HBS9 := Lib.hid (HBS5.out.below' hb2)
          have HBZ9 := Lib.hid (HBZ5.out.below' hb2)
          have HBC9 := Lib.hid (HBC5.out.below' hb2)
          have HBW9 := Lib.hid (HBW5.out.trans (hb2.mono HBW5.out.size))
          go_wp2
          go_roundw
          case rel => exact ⟨k + 1, (k : Int), by omega, by go_num, no_succ HN.out HF.out, HBR9, HBS9, HBZ9, HBC9, HBW9⟩
          case measure => simp [intOf]; omega
        cases hA2 : appliesB s ⟨s.ageFrom, s.yearsFrom, (k : Int)⟩
        · have HF := Lib.hid (show comB r s (k : Int) = false by unfold comB; rw [HC.out, hA, hA2]; rfl)
          go_wp2_with (first | (refine wpList_load_agg rfl 58 _ rfl ⟨w.heap.size, 0, none⟩ rfl [.int .i64 r.ageFrom, .int .i64 r.ageTo, .int .i64 r.yearsFrom, .int .i64 r.yearsTo, .int .i64 r.kinds, .int .i64 r.outcome] hcR.out _ Try.underlying58 rfl Rule.size ?_) | (refine wpList_load_agg rfl 25 _ rfl ⟨w.heap.size + 1 + 1 + 1, 0, none⟩ rfl [.int .i64 s.ageFrom, .int .i64 s.yearsFrom, .int .i64 (k : Int)] hcC.out _ Try.underlying25 rfl Case.size ?_))
          refine (impl_applies_any r ⟨s.ageFrom, s.yearsFrom, (k : Int)⟩ hr ⟨by simp, by simp; omega⟩ _).mono ?_
          rw [hA]
          rintro e w2 ⟨rfl, hb2⟩
          have hkS := HBS5.out.below' hb2
          have hkC := HBC5.out.below' hb2
          have s0 : w2.cell? ⟨w.heap.size + 1, 0, none⟩ = some (.int .i64 s.ageFrom) := hkS.cell 0
          have s1 : w2.cell? ⟨w.heap.size + 1, 1, none⟩ = some (.int .i64 s.ageTo) := hkS.cell 1
          have s2 : w2.cell? ⟨w.heap.size + 1, 2, none⟩ = some (.int .i64 s.yearsFrom) := hkS.cell 2
          have s3 : w2.cell? ⟨w.heap.size + 1, 3, none⟩ = some (.int .i64 s.yearsTo) := hkS.cell 3
          have s4 : w2.cell? ⟨w.heap.size + 1, 4, none⟩ = some (.int .i64 s.kinds) := hkS.cell 4
          have s5 : w2.cell? ⟨w.heap.size + 1, 5, none⟩ = some (.int .i64 s.outcome) := hkS.cell 5
          have c0 : w2.cell? ⟨w.heap.size + 1 + 1 + 1, 0, none⟩ = some (.int .i64 s.ageFrom) := hkC.cell 0
          have c1 : w2.cell? ⟨w.heap.size + 1 + 1 + 1, 1, none⟩ = some (.int .i64 s.yearsFrom) := hkC.cell 1
          have c2 : w2.cell? ⟨w.heap.size + 1 + 1 + 1, 2, none⟩ = some (.int .i64 (k : Int)) := hkC.cell 2
          clear hkS hkC
          go_wp2_with fail
          refine (impl_applies_any s ⟨s.ageFrom, s.yearsFrom, (k : Int)⟩ hs ⟨by simp, by simp; omega⟩ _).mono ?_
          rw [hA2]
          rintro e w3 ⟨rfl, hb3⟩
          have HBR9 := Lib.hid (HBR5.out.below' (below_step hb2 hb3))
          have HBS9 := Lib.hid (HBS5.out.below' (below_step hb2 hb3))
          have HBZ9 := Lib.hid (HBZ5.out.below' (below_step hb2 hb3))
          have HBC9 := Lib.hid (HBC5.out.below' (below_step hb2 hb3))
          have HBW9 := Lib.hid (HBW5.out.trans ((below_step hb2 hb3).mono HBW5.out.size))
          go_wp2
          go_roundw
          case rel => exact ⟨k + 1, (k : Int), by omega, by go_num, no_succ HN.out HF.out, HBR9, HBS9, HBZ9, HBC9, HBW9⟩
          case measure => simp [intOf]; omega
        · have HF := Lib.hid (com_first hlt HN.out (show comB r s (k : Int) = true by unfold comB; rw [HC.out, hA, hA2]; rfl))
          have H1 : Hid (∀ v ∈ ([.int .i64 s.ageFrom, .int .i64 s.yearsFrom, .int .i64 (k : Int)] : List Value), v.oneCell' = true) := Lib.hid (by simp [Value.oneCell'])
          go_wp2_with (first | (refine wpList_load_agg rfl 58 _ rfl ⟨w.heap.size, 0, none⟩ rfl [.int .i64 r.ageFrom, .int .i64 r.ageTo, .int .i64 r.yearsFrom, .int .i64 r.yearsTo, .int .i64 r.kinds, .int .i64 r.outcome] hcR.out _ Try.underlying58 rfl Rule.size ?_) | (refine wpList_load_agg rfl 25 _ rfl ⟨w.heap.size + 1 + 1 + 1, 0, none⟩ rfl [.int .i64 s.ageFrom, .int .i64 s.yearsFrom, .int .i64 (k : Int)] hcC.out _ Try.underlying25 rfl Case.size ?_))
          refine (impl_applies_any r ⟨s.ageFrom, s.yearsFrom, (k : Int)⟩ hr ⟨by simp, by simp; omega⟩ _).mono ?_
          rw [hA]
          rintro e w2 ⟨rfl, hb2⟩
          have hkS := HBS5.out.below' hb2
          have hkC := HBC5.out.below' hb2
          have s0 : w2.cell? ⟨w.heap.size + 1, 0, none⟩ = some (.int .i64 s.ageFrom) := hkS.cell 0
          have s1 : w2.cell? ⟨w.heap.size + 1, 1, none⟩ = some (.int .i64 s.ageTo) := hkS.cell 1
          have s2 : w2.cell? ⟨w.heap.size + 1, 2, none⟩ = some (.int .i64 s.yearsFrom) := hkS.cell 2
          have s3 : w2.cell? ⟨w.heap.size + 1, 3, none⟩ = some (.int .i64 s.yearsTo) := hkS.cell 3
          have s4 : w2.cell? ⟨w.heap.size + 1, 4, none⟩ = some (.int .i64 s.kinds) := hkS.cell 4
          have s5 : w2.cell? ⟨w.heap.size + 1, 5, none⟩ = some (.int .i64 s.outcome) := hkS.cell 5
          have c0 : w2.cell? ⟨w.heap.size + 1 + 1 + 1, 0, none⟩ = some (.int .i64 s.ageFrom) := hkC.cell 0
          have c1 : w2.cell? ⟨w.heap.size + 1 + 1 + 1, 1, none⟩ = some (.int .i64 s.yearsFrom) := hkC.cell 1
          have c2 : w2.cell? ⟨w.heap.size + 1 + 1 + 1, 2, none⟩ = some (.int .i64 (k : Int)) := hkC.cell 2
          clear hkS hkC
          go_wp2_with fail
          refine (impl_applies_any s ⟨s.ageFrom, s.yearsFrom, (k : Int)⟩ hs ⟨by simp, by simp; omega⟩ _).mono ?_
          rw [hA2]
          rintro e w3 ⟨rfl, hb3⟩
          have HBR9 := Lib.hid (HBR5.out.below' (below_step hb2 hb3))
          have HBS9 := Lib.hid (HBS5.out.below' (below_step hb2 hb3))
          have HBZ9 := Lib.hid (HBZ5.out.below' (below_step hb2 hb3))
          have HBC9 := Lib.hid (HBC5.out.below' (below_step hb2 hb3))
          have HBW9 := Lib.hid (HBW5.out.trans ((below_step hb2 hb3).mono HBW5.out.size))
          have hcC3 := Lib.hid (Blk.aggr (cs := [.int .i64 s.ageFrom, .int .i64 s.yearsFrom, .int .i64 (k : Int)]) HBC9.out)
          go_wp2_with (first | (refine wpList_load_agg rfl 25 _ rfl ⟨w.heap.size + 1 + 1 + 1, 0, none⟩ rfl [.int .i64 s.ageFrom, .int .i64 s.yearsFrom, .int .i64 (k : Int)] hcC3.out _ Try.underlying25 rfl Case.size ?_) | (refine wpList_store_agg rfl 25 _ _ rfl (w.heap.size + 1 + 1) 0 [.int .i64 s.ageFrom, .int .i64 s.yearsFrom, .int .i64 (k : Int)] rfl rfl 25 #[.int .i64 0, .int .i64 0, .int .i64 0] HBZ9.out Case.size (by simp) H1.out ?_))
          intro w6 hR6 hg6 _
          have hR6' : Blk w6 (w.heap.size + 1 + 1) 25 #[.int .i64 s.ageFrom, .int .i64 s.yearsFrom, .int .i64 (k : Int)] := hR6
          have r0 : w6.cell? ⟨w.heap.size + 1 + 1, 0, none⟩ = some (.int .i64 s.ageFrom) := hR6'.cell 0
          have r1 : w6.cell? ⟨w.heap.size + 1 + 1, 1, none⟩ = some (.int .i64 s.yearsFrom) := hR6'.cell 1
          have r2 : w6.cell? ⟨w.heap.size + 1 + 1, 2, none⟩ = some (.int .i64 (k : Int)) := hR6'.cell 2
          go_wp2
          refine bodyPost_ret (v := .tuple #[.agg #[.int .i64 s.ageFrom, .int .i64 s.yearsFrom, .int .i64 (k : Int)], .bool true]) (by simp [results, Try.results32, go_sem, r0, r1, r2]) rfl ?_
          exact ⟨⟨s.ageFrom, s.yearsFrom, (k : Int)⟩, by rw [HF.out]; rfl, (fun d hd => by rw [HF.out, HC.out] at hd; injection hd), case_fits HXB.out.1 HXB.out.2 ⟨by omega, by omega⟩, (HBW9.out.grown hg6 (Nat.le_of_lt (Nat.lt_of_le_of_lt (show w.heap.size ≤ w.heap.size + 1 + 1 by omega) HBZ9.out.lt)) (fun k hk => by injection hk with hk; omega))⟩
      · have hk4 : k = 4 := by omega
        subst hk4
        have HF := Lib.hid (com_none HN.out)
        have H1 : Hid (∀ v ∈ ([.int .i64 0, .int .i64 0, .int .i64 0] : List Value), v.oneCell' = true) := Lib.hid (by simp [Value.oneCell'])
        go_wp2_with (refine wpList_store_agg rfl 25 _ _ rfl (w.heap.size + 1 + 1) 0 [.int .i64 0, .int .i64 0, .int .i64 0] rfl rfl 25 #[.int .i64 0, .int .i64 0, .int .i64 0] HBZ.out Case.size (by simp) H1.out ?_)
        intro w6 hR6 hg6 _
        have hR6' : Blk w6 (w.heap.size + 1 + 1) 25 #[.int .i64 0, .int .i64 0, .int .i64 0] := hR6
        have r0 : w6.cell? ⟨w.heap.size + 1 + 1, 0, none⟩ = some (.int .i64 0) := hR6'.cell 0
        have r1 : w6.cell? ⟨w.heap.size + 1 + 1, 1, none⟩ = some (.int .i64 0) := hR6'.cell 1
        have r2 : w6.cell? ⟨w.heap.size + 1 + 1, 2, none⟩ = some (.int .i64 0) := hR6'.cell 2
        go_wp2
        refine bodyPost_ret (v := .tuple #[.agg #[.int .i64 0, .int .i64 0, .int .i64 0], .bool false]) (by simp [results, Try.results32, go_sem, r0, r1, r2]) rfl ?_
        exact ⟨⟨0, 0, 0⟩, by rw [HF.out]; rfl, (fun d hd => by rw [HF.out] at hd; cases hd), case_fits ⟨by omega, by omega⟩ ⟨by omega, by omega⟩ ⟨by omega, by omega⟩, (HBW.out.grown hg6 (Nat.le_of_lt (Nat.lt_of_le_of_lt (show w.heap.size ≤ w.heap.size + 1 + 1 by omega) HBZ.out.lt)) (fun k hk => by injection hk with hk; omega))⟩
  · have HC := Lib.hid (show ∀ k, comC r s k = ⟨s.ageFrom, r.yearsFrom, k⟩ from fun k => by unfold comC; rw [show max r.ageFrom s.ageFrom = s.ageFrom by omega, show max r.yearsFrom s.yearsFrom = r.yearsFrom by omega])
    have hbw : Below w.heap.size w ((((w.alloc (.cells #[.int .i64 r.ageFrom, .int .i64 r.ageTo, .int .i64 r.yearsFrom, .int .i64 r.yearsTo, .int .i64 r.kinds, .int .i64 r.outcome] 58)).alloc (.cells #[.int .i64 s.ageFrom, .int .i64 s.ageTo, .int .i64 s.yearsFrom, .int .i64 s.yearsTo, .int .i64 s.kinds, .int .i64 s.outcome] 58)).alloc (.cells #[.int .i64 0, .int .i64 0, .int .i64 0] 25)).alloc (.cells #[.int .i64 s.ageFrom, .int .i64 r.yearsFrom, .int .i64 0] 25)) := ((((Below.refl _ w).alloc (Nat.le_refl _) _).alloc (by simp) _).alloc (by simp <;> omega) _).alloc (by simp <;> omega) _
    have HBR := Lib.hid ((((Blk.new w 58 #[.int .i64 r.ageFrom, .int .i64 r.ageTo, .int .i64 r.yearsFrom, .int .i64 r.yearsTo, .int .i64 r.kinds, .int .i64 r.outcome]).alloc (.cells #[.int .i64 s.ageFrom, .int .i64 s.ageTo, .int .i64 s.yearsFrom, .int .i64 s.yearsTo, .int .i64 s.kinds, .int .i64 s.outcome] 58)).alloc (.cells #[.int .i64 0, .int .i64 0, .int .i64 0] 25)).alloc (.cells #[.int .i64 s.ageFrom, .int .i64 r.yearsFrom, .int .i64 0] 25))
    have HBS := Lib.hid (((Blk.new (w.alloc (.cells #[.int .i64 r.ageFrom, .int .i64 r.ageTo, .int .i64 r.yearsFrom, .int .i64 r.yearsTo, .int .i64 r.kinds, .int .i64 r.outcome] 58)) 58 #[.int .i64 s.ageFrom, .int .i64 s.ageTo, .int .i64 s.yearsFrom, .int .i64 s.yearsTo, .int .i64 s.kinds, .int .i64 s.outcome]).alloc (.cells #[.int .i64 0, .int .i64 0, .int .i64 0] 25)).alloc (.cells #[.int .i64 s.ageFrom, .int .i64 r.yearsFrom, .int .i64 0] 25))
    have HBZ := Lib.hid ((Blk.new ((w.alloc (.cells #[.int .i64 r.ageFrom, .int .i64 r.ageTo, .int .i64 r.yearsFrom, .int .i64 r.yearsTo, .int .i64 r.kinds, .int .i64 r.outcome] 58)).alloc (.cells #[.int .i64 s.ageFrom, .int .i64 s.ageTo, .int .i64 s.yearsFrom, .int .i64 s.yearsTo, .int .i64 s.kinds, .int .i64 s.outcome] 58)) 25 #[.int .i64 0, .int .i64 0, .int .i64 0]).alloc (.cells #[.int .i64 s.ageFrom, .int .i64 r.yearsFrom, .int .i64 0] 25))
    have HBC := Lib.hid (Blk.new (((w.alloc (.cells #[.int .i64 r.ageFrom, .int .i64 r.ageTo, .int .i64 r.yearsFrom, .int .i64 r.yearsTo, .int .i64 r.kinds, .int .i64 r.outcome] 58)).alloc (.cells #[.int .i64 s.ageFrom, .int .i64 s.ageTo, .int .i64 s.yearsFrom, .int .i64 s.yearsTo, .int .i64 s.kinds, .int .i64 s.outcome] 58)).alloc (.cells #[.int .i64 0, .int .i64 0, .int .i64 0] 25)) 25 #[.int .i64 s.ageFrom, .int .i64 r.yearsFrom, .int .i64 0])
    simp only [World.size_alloc] at HBS HBZ HBC
    have HXB := Lib.hid (show (0 ≤ s.ageFrom ∧ s.ageFrom ≤ 150) ∧ (0 ≤ r.yearsFrom ∧ r.yearsFrom ≤ 99) from ⟨by omega, by omega⟩)
    have HBW := Lib.hid hbw
    generalize ((((w.alloc (.cells #[.int .i64 r.ageFrom, .int .i64 r.ageTo, .int .i64 r.yearsFrom, .int .i64 r.yearsTo, .int .i64 r.kinds, .int .i64 r.outcome] 58)).alloc (.cells #[.int .i64 s.ageFrom, .int .i64 s.ageTo, .int .i64 s.yearsFrom, .int .i64 s.yearsTo, .int .i64 s.kinds, .int .i64 s.outcome] 58)).alloc (.cells #[.int .i64 0, .int .i64 0, .int .i64 0] 25)).alloc (.cells #[.int .i64 s.ageFrom, .int .i64 r.yearsFrom, .int .i64 0] 25)) = W at HBR HBS HBZ HBC HBW ⊢
    clear hbw
    go_loopw [19] (fun i wr => ∃ (k : Nat) (q : Int), k ≤ 4 ∧ i = .int .i64 k ∧ (∀ j : Int, 0 ≤ j → j < (k : Int) → comB r s j = false) ∧ Hid (Blk wr (w.heap.size) 58 #[.int .i64 r.ageFrom, .int .i64 r.ageTo, .int .i64 r.yearsFrom, .int .i64 r.yearsTo, .int .i64 r.kinds, .int .i64 r.outcome]) ∧ Hid (Blk wr (w.heap.size + 1) 58 #[.int .i64 s.ageFrom, .int .i64 s.ageTo, .int .i64 s.yearsFrom, .int .i64 s.yearsTo, .int .i64 s.kinds, .int .i64 s.outcome]) ∧ Hid (Blk wr (w.heap.size + 1 + 1) 25 #[.int .i64 0, .int .i64 0, .int .i64 0]) ∧ Hid (Blk wr (w.heap.size + 1 + 1 + 1) 25 #[.int .i64 s.ageFrom, .int .i64 r.yearsFrom, .int .i64 q]) ∧ Hid (Below w.heap.size w wr)) (fun i _ => 4 - (intOf i).toNat)
    case atStart => exact ⟨0, 0, by omega, rfl, fun j h1 h2 => by simp at h2; omega, HBR, HBS, HBZ, HBC, HBW⟩
    case round =>
      obtain ⟨k, q, hk, rfl, hno, HBR, HBS, HBZ, HBC, HBW⟩ := hrel
      have HN := Lib.hid hno; clear hno
      by_cases hlt : k < 4
      · have hki : (k : Int) < 4 := by omega
        have c3 : wr.cell? ⟨w.heap.size + 1 + 1 + 1, 2, none⟩ = some (.int .i64 q) := HBC.out.cell 2
        have z3 : wr.frozen? ⟨w.heap.size + 1 + 1 + 1, 2, none⟩ = false := HBC.out.frozen 2
        have HBC5 := Lib.hid (show Blk (wr.setCell ⟨w.heap.size + 1 + 1 + 1, 2, none⟩ (.int .i64 (k : Int))) (w.heap.size + 1 + 1 + 1) 25 #[.int .i64 s.ageFrom, .int .i64 r.yearsFrom, .int .i64 (k : Int)] by simpa using HBC.out.set_ 2 (.int .i64 (k : Int)))
        have HBR5 := Lib.hid (HBR.out.far (p := ⟨w.heap.size + 1 + 1 + 1, 2, none⟩) (by show w.heap.size ≠ w.heap.size + 1 + 1 + 1; omega) (.int .i64 (k : Int)))
        have HBS5 := Lib.hid (HBS.out.far (p := ⟨w.heap.size + 1 + 1 + 1, 2, none⟩) (by show w.heap.size + 1 ≠ w.heap.size + 1 + 1 + 1; omega) (.int .i64 (k : Int)))
        have HBZ5 := Lib.hid (HBZ.out.far (p := ⟨w.heap.size + 1 + 1 + 1, 2, none⟩) (by show w.heap.size + 1 + 1 ≠ w.heap.size + 1 + 1 + 1; omega) (.int .i64 (k : Int)))
        have HBW5 := Lib.hid (HBW.out.setCell (p := ⟨w.heap.size + 1 + 1 + 1, 2, none⟩) (by show w.heap.size ≤ w.heap.size + 1 + 1 + 1; omega) (.int .i64 (k : Int)))
        have hcR := Lib.hid (Blk.aggr (cs := [.int .i64 r.ageFrom, .int .i64 r.ageTo, .int .i64 r.yearsFrom, .int .i64 r.yearsTo, .int .i64 r.kinds, .int .i64 r.outcome]) HBR5.out)
        have hcC := Lib.hid (Blk.aggr (cs := [.int .i64 s.ageFrom, .int .i64 r.yearsFrom, .int .i64 (k : Int)]) HBC5.out)
        cases hA : appliesB r ⟨s.ageFrom, r.yearsFrom, (k : Int)⟩
        · have HF := Lib.hid (show comB r s (k : Int) = false by unfold comB; rw [HC.out, hA]; rfl)
          go_wp2_with (first | (refine wpList_load_agg rfl 58 _ rfl ⟨w.heap.size, 0, none⟩ rfl [.int .i64 r.ageFrom, .int .i64 r.ageTo, .int .i64 r.yearsFrom, .int .i64 r.yearsTo, .int .i64 r.kinds, .int .i64 r.outcome] hcR.out _ Try.underlying58 rfl Rule.size ?_) | (refine wpList_load_agg rfl 25 _ rfl ⟨w.heap.size + 1 + 1 + 1, 0, none⟩ rfl [.int .i64 s.ageFrom, .int .i64 r.yearsFrom, .int .i64 (k : Int)] hcC.out _ Try.underlying25 rfl Case.size ?_))
          refine (impl_applies_any r ⟨s.ageFrom, r.yearsFrom, (k : Int)⟩ hr ⟨by simp, by simp; omega⟩ _).mono ?_
          rw [hA]
          rintro e w2 ⟨rfl, hb2⟩
          have HBR9 := Lib.hid (HBR5.out.below' hb2)
          have HBS9 := Lib.hid (HBS5.out.below' hb2)
          have HBZ9 := Lib.hid (HBZ5.out.below' hb2)
          have HBC9 := Lib.hid (HBC5.out.below' hb2)
          have HBW9 := Lib.hid (HBW5.out.trans (hb2.mono HBW5.out.size))
          go_wp2
          go_roundw
          case rel => exact ⟨k + 1, (k : Int), by omega, by go_num, no_succ HN.out HF.out, HBR9, HBS9, HBZ9, HBC9, HBW9⟩
          case measure => simp [intOf]; omega
        cases hA2 : appliesB s ⟨s.ageFrom, r.yearsFrom, (k : Int)⟩
        · have HF := Lib.hid (show comB r s (k : Int) = false by unfold comB; rw [HC.out, hA, hA2]; rfl)
          go_wp2_with (first | (refine wpList_load_agg rfl 58 _ rfl ⟨w.heap.size, 0, none⟩ rfl [.int .i64 r.ageFrom, .int .i64 r.ageTo, .int .i64 r.yearsFrom, .int .i64 r.yearsTo, .int .i64 r.kinds, .int .i64 r.outcome] hcR.out _ Try.underlying58 rfl Rule.size ?_) | (refine wpList_load_agg rfl 25 _ rfl ⟨w.heap.size + 1 + 1 + 1, 0, none⟩ rfl [.int .i64 s.ageFrom, .int .i64 r.yearsFrom, .int .i64 (k : Int)] hcC.out _ Try.underlying25 rfl Case.size ?_))
          refine (impl_applies_any r ⟨s.ageFrom, r.yearsFrom, (k : Int)⟩ hr ⟨by simp, by simp; omega⟩ _).mono ?_
          rw [hA]
          rintro e w2 ⟨rfl, hb2⟩
          have hkS := HBS5.out.below' hb2
          have hkC := HBC5.out.below' hb2
          have s0 : w2.cell? ⟨w.heap.size + 1, 0, none⟩ = some (.int .i64 s.ageFrom) := hkS.cell 0
          have s1 : w2.cell? ⟨w.heap.size + 1, 1, none⟩ = some (.int .i64 s.ageTo) := hkS.cell 1
          have s2 : w2.cell? ⟨w.heap.size + 1, 2, none⟩ = some (.int .i64 s.yearsFrom) := hkS.cell 2
          have s3 : w2.cell? ⟨w.heap.size + 1, 3, none⟩ = some (.int .i64 s.yearsTo) := hkS.cell 3
          have s4 : w2.cell? ⟨w.heap.size + 1, 4, none⟩ = some (.int .i64 s.kinds) := hkS.cell 4
          have s5 : w2.cell? ⟨w.heap.size + 1, 5, none⟩ = some (.int .i64 s.outcome) := hkS.cell 5
          have c0 : w2.cell? ⟨w.heap.size + 1 + 1 + 1, 0, none⟩ = some (.int .i64 s.ageFrom) := hkC.cell 0
          have c1 : w2.cell? ⟨w.heap.size + 1 + 1 + 1, 1, none⟩ = some (.int .i64 r.yearsFrom) := hkC.cell 1
          have c2 : w2.cell? ⟨w.heap.size + 1 + 1 + 1, 2, none⟩ = some (.int .i64 (k : Int)) := hkC.cell 2
          clear hkS hkC
          go_wp2_with fail
          refine (impl_applies_any s ⟨s.ageFrom, r.yearsFrom, (k : Int)⟩ hs ⟨by simp, by simp; omega⟩ _).mono ?_
          rw [hA2]
          rintro e w3 ⟨rfl, hb3⟩
          have HBR9 := Lib.hid (HBR5.out.below' (below_step hb2 hb3))
          have HBS9 := Lib.hid (HBS5.out.below' (below_step hb2 hb3))
          have HBZ9 := Lib.hid (HBZ5.out.below' (below_step hb2 hb3))
          have HBC9 := Lib.hid (HBC5.out.below' (below_step hb2 hb3))
          have HBW9 := Lib.hid (HBW5.out.trans ((below_step hb2 hb3).mono HBW5.out.size))
          go_wp2
          go_roundw
          case rel => exact ⟨k + 1, (k : Int), by omega, by go_num, no_succ HN.out HF.out, HBR9, HBS9, HBZ9, HBC9, HBW9⟩
          case measure => simp [intOf]; omega
        · have HF := Lib.hid (com_first hlt HN.out (show comB r s (k : Int) = true by unfold comB; rw [HC.out, hA, hA2]; rfl))
          have H1 : Hid (∀ v ∈ ([.int .i64 s.ageFrom, .int .i64 r.yearsFrom, .int .i64 (k : Int)] : List Value), v.oneCell' = true) := Lib.hid (by simp [Value.oneCell'])
          go_wp2_with (first | (refine wpList_load_agg rfl 58 _ rfl ⟨w.heap.size, 0, none⟩ rfl [.int .i64 r.ageFrom, .int .i64 r.ageTo, .int .i64 r.yearsFrom, .int .i64 r.yearsTo, .int .i64 r.kinds, .int .i64 r.outcome] hcR.out _ Try.underlying58 rfl Rule.size ?_) | (refine wpList_load_agg rfl 25 _ rfl ⟨w.heap.size + 1 + 1 + 1, 0, none⟩ rfl [.int .i64 s.ageFrom, .int .i64 r.yearsFrom, .int .i64 (k : Int)] hcC.out _ Try.underlying25 rfl Case.size ?_))
          refine (impl_applies_any r ⟨s.ageFrom, r.yearsFrom, (k : Int)⟩ hr ⟨by simp, by simp; omega⟩ _).mono ?_
          rw [hA]
          rintro e w2 ⟨rfl, hb2⟩
          have hkS := HBS5.out.below' hb2
          have hkC := HBC5.out.below' hb2
          have s0 : w2.cell? ⟨w.heap.size + 1, 0, none⟩ = some (.int .i64 s.ageFrom) := hkS.cell 0
          have s1 : w2.cell? ⟨w.heap.size + 1, 1, none⟩ = some (.int .i64 s.ageTo) := hkS.cell 1
          have s2 : w2.cell? ⟨w.heap.size + 1, 2, none⟩ = some (.int .i64 s.yearsFrom) := hkS.cell 2
          have s3 : w2.cell? ⟨w.heap.size + 1, 3, none⟩ = some (.int .i64 s.yearsTo) := hkS.cell 3
          have s4 : w2.cell? ⟨w.heap.size + 1, 4, none⟩ = some (.int .i64 s.kinds) := hkS.cell 4
          have s5 : w2.cell? ⟨w.heap.size + 1, 5, none⟩ = some (.int .i64 s.outcome) := hkS.cell 5
          have c0 : w2.cell? ⟨w.heap.size + 1 + 1 + 1, 0, none⟩ = some (.int .i64 s.ageFrom) := hkC.cell 0
          have c1 : w2.cell? ⟨w.heap.size + 1 + 1 + 1, 1, none⟩ = some (.int .i64 r.yearsFrom) := hkC.cell 1
          have c2 : w2.cell? ⟨w.heap.size + 1 + 1 + 1, 2, none⟩ = some (.int .i64 (k : Int)) := hkC.cell 2
          clear hkS hkC
          go_wp2_with fail
          refine (impl_applies_any s ⟨s.ageFrom, r.yearsFrom, (k : Int)⟩ hs ⟨by simp, by simp; omega⟩ _).mono ?_
          rw [hA2]
          rintro e w3 ⟨rfl, hb3⟩
          have HBR9 := Lib.hid (HBR5.out.below' (below_step hb2 hb3))
          have HBS9 := Lib.hid (HBS5.out.below' (below_step hb2 hb3))
          have HBZ9 := Lib.hid (HBZ5.out.below' (below_step hb2 hb3))
          have HBC9 := Lib.hid (HBC5.out.below' (below_step hb2 hb3))
          have HBW9 := Lib.hid (HBW5.out.trans ((below_step hb2 hb3).mono HBW5.out.size))
          have hcC3 := Lib.hid (Blk.aggr (cs := [.int .i64 s.ageFrom, .int .i64 r.yearsFrom, .int .i64 (k : Int)]) HBC9.out)
          go_wp2_with (first | (refine wpList_load_agg rfl 25 _ rfl ⟨w.heap.size + 1 + 1 + 1, 0, none⟩ rfl [.int .i64 s.ageFrom, .int .i64 r.yearsFrom, .int .i64 (k : Int)] hcC3.out _ Try.underlying25 rfl Case.size ?_) | (refine wpList_store_agg rfl 25 _ _ rfl (w.heap.size + 1 + 1) 0 [.int .i64 s.ageFrom, .int .i64 r.yearsFrom, .int .i64 (k : Int)] rfl rfl 25 #[.int .i64 0, .int .i64 0, .int .i64 0] HBZ9.out Case.size (by simp) H1.out ?_))
          intro w6 hR6 hg6 _
          have hR6' : Blk w6 (w.heap.size + 1 + 1) 25 #[.int .i64 s.ageFrom, .int .i64 r.yearsFrom, .int .i64 (k : Int)] := hR6
          have r0 : w6.cell? ⟨w.heap.size + 1 + 1, 0, none⟩ = some (.int .i64 s.ageFrom) := hR6'.cell 0
          have r1 : w6.cell? ⟨w.heap.size + 1 + 1, 1, none⟩ = some (.int .i64 r.yearsFrom) := hR6'.cell 1
          have r2 : w6.cell? ⟨w.heap.size + 1 + 1, 2, none⟩ = some (.int .i64 (k : Int)) := hR6'.cell 2
          go_wp2
          refine bodyPost_ret (v := .tuple #[.agg #[.int .i64 s.ageFrom, .int .i64 r.yearsFrom, .int .i64 (k : Int)], .bool true]) (by simp [results, Try.results32, go_sem, r0, r1, r2]) rfl ?_
          exact ⟨⟨s.ageFrom, r.yearsFrom, (k : Int)⟩, by rw [HF.out]; rfl, (fun d hd => by rw [HF.out, HC.out] at hd; injection hd), case_fits HXB.out.1 HXB.out.2 ⟨by omega, by omega⟩, (HBW9.out.grown hg6 (Nat.le_of_lt (Nat.lt_of_le_of_lt (show w.heap.size ≤ w.heap.size + 1 + 1 by omega) HBZ9.out.lt)) (fun k hk => by injection hk with hk; omega))⟩
      · have hk4 : k = 4 := by omega
        subst hk4
        have HF := Lib.hid (com_none HN.out)
        have H1 : Hid (∀ v ∈ ([.int .i64 0, .int .i64 0, .int .i64 0] : List Value), v.oneCell' = true) := Lib.hid (by simp [Value.oneCell'])
        go_wp2_with (refine wpList_store_agg rfl 25 _ _ rfl (w.heap.size + 1 + 1) 0 [.int .i64 0, .int .i64 0, .int .i64 0] rfl rfl 25 #[.int .i64 0, .int .i64 0, .int .i64 0] HBZ.out Case.size (by simp) H1.out ?_)
        intro w6 hR6 hg6 _
        have hR6' : Blk w6 (w.heap.size + 1 + 1) 25 #[.int .i64 0, .int .i64 0, .int .i64 0] := hR6
        have r0 : w6.cell? ⟨w.heap.size + 1 + 1, 0, none⟩ = some (.int .i64 0) := hR6'.cell 0
        have r1 : w6.cell? ⟨w.heap.size + 1 + 1, 1, none⟩ = some (.int .i64 0) := hR6'.cell 1
        have r2 : w6.cell? ⟨w.heap.size + 1 + 1, 2, none⟩ = some (.int .i64 0) := hR6'.cell 2
        go_wp2
        refine bodyPost_ret (v := .tuple #[.agg #[.int .i64 0, .int .i64 0, .int .i64 0], .bool false]) (by simp [results, Try.results32, go_sem, r0, r1, r2]) rfl ?_
        exact ⟨⟨0, 0, 0⟩, by rw [HF.out]; rfl, (fun d hd => by rw [HF.out] at hd; cases hd), case_fits ⟨by omega, by omega⟩ ⟨by omega, by omega⟩ ⟨by omega, by omega⟩, (HBW.out.grown hg6 (Nat.le_of_lt (Nat.lt_of_le_of_lt (show w.heap.size ≤ w.heap.size + 1 + 1 by omega) HBZ.out.lt)) (fun k hk => by injection hk with hk; omega))⟩
  · have HC := Lib.hid (show ∀ k, comC r s k = ⟨r.ageFrom, s.yearsFrom, k⟩ from fun k => by unfold comC; rw [show max r.ageFrom s.ageFrom = r.ageFrom by omega, show max r.yearsFrom s.yearsFrom = s.yearsFrom by omega])
    have hbw : Below w.heap.size w ((((w.alloc (.cells #[.int .i64 r.ageFrom, .int .i64 r.ageTo, .int .i64 r.yearsFrom, .int .i64 r.yearsTo, .int .i64 r.kinds, .int .i64 r.outcome] 58)).alloc (.cells #[.int .i64 s.ageFrom, .int .i64 s.ageTo, .int .i64 s.yearsFrom, .int .i64 s.yearsTo, .int .i64 s.kinds, .int .i64 s.outcome] 58)).alloc (.cells #[.int .i64 0, .int .i64 0, .int .i64 0] 25)).alloc (.cells #[.int .i64 r.ageFrom, .int .i64 s.yearsFrom, .int .i64 0] 25)) := ((((Below.refl _ w).alloc (Nat.le_refl _) _).alloc (by simp) _).alloc (by simp <;> omega) _).alloc (by simp <;> omega) _
    have HBR := Lib.hid ((((Blk.new w 58 #[.int .i64 r.ageFrom, .int .i64 r.ageTo, .int .i64 r.yearsFrom, .int .i64 r.yearsTo, .int .i64 r.kinds, .int .i64 r.outcome]).alloc (.cells #[.int .i64 s.ageFrom, .int .i64 s.ageTo, .int .i64 s.yearsFrom, .int .i64 s.yearsTo, .int .i64 s.kinds, .int .i64 s.outcome] 58)).alloc (.cells #[.int .i64 0, .int .i64 0, .int .i64 0] 25)).alloc (.cells #[.int .i64 r.ageFrom, .int .i64 s.yearsFrom, .int .i64 0] 25))
    have HBS := Lib.hid (((Blk.new (w.alloc (.cells #[.int .i64 r.ageFrom, .int .i64 r.ageTo, .int .i64 r.yearsFrom, .int .i64 r.yearsTo, .int .i64 r.kinds, .int .i64 r.outcome] 58)) 58 #[.int .i64 s.ageFrom, .int .i64 s.ageTo, .int .i64 s.yearsFrom, .int .i64 s.yearsTo, .int .i64 s.kinds, .int .i64 s.outcome]).alloc (.cells #[.int .i64 0, .int .i64 0, .int .i64 0] 25)).alloc (.cells #[.int .i64 r.ageFrom, .int .i64 s.yearsFrom, .int .i64 0] 25))
    have HBZ := Lib.hid ((Blk.new ((w.alloc (.cells #[.int .i64 r.ageFrom, .int .i64 r.ageTo, .int .i64 r.yearsFrom, .int .i64 r.yearsTo, .int .i64 r.kinds, .int .i64 r.outcome] 58)).alloc (.cells #[.int .i64 s.ageFrom, .int .i64 s.ageTo, .int .i64 s.yearsFrom, .int .i64 s.yearsTo, .int .i64 s.kinds, .int .i64 s.outcome] 58)) 25 #[.int .i64 0, .int .i64 0, .int .i64 0]).alloc (.cells #[.int .i64 r.ageFrom, .int .i64 s.yearsFrom, .int .i64 0] 25))
    have HBC := Lib.hid (Blk.new (((w.alloc (.cells #[.int .i64 r.ageFrom, .int .i64 r.ageTo, .int .i64 r.yearsFrom, .int .i64 r.yearsTo, .int .i64 r.kinds, .int .i64 r.outcome] 58)).alloc (.cells #[.int .i64 s.ageFrom, .int .i64 s.ageTo, .int .i64 s.yearsFrom, .int .i64 s.yearsTo, .int .i64 s.kinds, .int .i64 s.outcome] 58)).alloc (.cells #[.int .i64 0, .int .i64 0, .int .i64 0] 25)) 25 #[.int .i64 r.ageFrom, .int .i64 s.yearsFrom, .int .i64 0])
    simp only [World.size_alloc] at HBS HBZ HBC
    have HXB := Lib.hid (show (0 ≤ r.ageFrom ∧ r.ageFrom ≤ 150) ∧ (0 ≤ s.yearsFrom ∧ s.yearsFrom ≤ 99) from ⟨by omega, by omega⟩)
    have HBW := Lib.hid hbw
    generalize ((((w.alloc (.cells #[.int .i64 r.ageFrom, .int .i64 r.ageTo, .int .i64 r.yearsFrom, .int .i64 r.yearsTo, .int .i64 r.kinds, .int .i64 r.outcome] 58)).alloc (.cells #[.int .i64 s.ageFrom, .int .i64 s.ageTo, .int .i64 s.yearsFrom, .int .i64 s.yearsTo, .int .i64 s.kinds, .int .i64 s.outcome] 58)).alloc (.cells #[.int .i64 0, .int .i64 0, .int .i64 0] 25)).alloc (.cells #[.int .i64 r.ageFrom, .int .i64 s.yearsFrom, .int .i64 0] 25)) = W at HBR HBS HBZ HBC HBW ⊢
    clear hbw
    go_loopw [19] (fun i wr => ∃ (k : Nat) (q : Int), k ≤ 4 ∧ i = .int .i64 k ∧ (∀ j : Int, 0 ≤ j → j < (k : Int) → comB r s j = false) ∧ Hid (Blk wr (w.heap.size) 58 #[.int .i64 r.ageFrom, .int .i64 r.ageTo, .int .i64 r.yearsFrom, .int .i64 r.yearsTo, .int .i64 r.kinds, .int .i64 r.outcome]) ∧ Hid (Blk wr (w.heap.size + 1) 58 #[.int .i64 s.ageFrom, .int .i64 s.ageTo, .int .i64 s.yearsFrom, .int .i64 s.yearsTo, .int .i64 s.kinds, .int .i64 s.outcome]) ∧ Hid (Blk wr (w.heap.size + 1 + 1) 25 #[.int .i64 0, .int .i64 0, .int .i64 0]) ∧ Hid (Blk wr (w.heap.size + 1 + 1 + 1) 25 #[.int .i64 r.ageFrom, .int .i64 s.yearsFrom, .int .i64 q]) ∧ Hid (Below w.heap.size w wr)) (fun i _ => 4 - (intOf i).toNat)
    case atStart => exact ⟨0, 0, by omega, rfl, fun j h1 h2 => by simp at h2; omega, HBR, HBS, HBZ, HBC, HBW⟩
    case round =>
      obtain ⟨k, q, hk, rfl, hno, HBR, HBS, HBZ, HBC, HBW⟩ := hrel
      have HN := Lib.hid hno; clear hno
      by_cases hlt : k < 4
      · have hki : (k : Int) < 4 := by omega
        have c3 : wr.cell? ⟨w.heap.size + 1 + 1 + 1, 2, none⟩ = some (.int .i64 q) := HBC.out.cell 2
        have z3 : wr.frozen? ⟨w.heap.size + 1 + 1 + 1, 2, none⟩ = false := HBC.out.frozen 2
        have HBC5 := Lib.hid (show Blk (wr.setCell ⟨w.heap.size + 1 + 1 + 1, 2, none⟩ (.int .i64 (k : Int))) (w.heap.size + 1 + 1 + 1) 25 #[.int .i64 r.ageFrom, .int .i64 s.yearsFrom, .int .i64 (k : Int)] by simpa using HBC.out.set_ 2 (.int .i64 (k : Int)))
        have HBR5 := Lib.hid (HBR.out.far (p := ⟨w.heap.size + 1 + 1 + 1, 2, none⟩) (by show w.heap.size ≠ w.heap.size + 1 + 1 + 1; omega) (.int .i64 (k : Int)))
        have HBS5 := Lib.hid (HBS.out.far (p := ⟨w.heap.size + 1 + 1 + 1, 2, none⟩) (by show w.heap.size + 1 ≠ w.heap.size + 1 + 1 + 1; omega) (.int .i64 (k : Int)))
        have HBZ5 := Lib.hid (HBZ.out.far (p := ⟨w.heap.size + 1 + 1 + 1, 2, none⟩) (by show w.heap.size + 1 + 1 ≠ w.heap.size + 1 + 1 + 1; omega) (.int .i64 (k : Int)))
        have HBW5 := Lib.hid (HBW.out.setCell (p := ⟨w.heap.size + 1 + 1 + 1, 2, none⟩) (by show w.heap.size ≤ w.heap.size + 1 + 1 + 1; omega) (.int .i64 (k : Int)))
        have hcR := Lib.hid (Blk.aggr (cs := [.int .i64 r.ageFrom, .int .i64 r.ageTo, .int .i64 r.yearsFrom, .int .i64 r.yearsTo, .int .i64 r.kinds, .int .i64 r.outcome]) HBR5.out)
        have hcC := Lib.hid (Blk.aggr (cs := [.int .i64 r.ageFrom, .int .i64 s.yearsFrom, .int .i64 (k : Int)]) HBC5.out)
        cases hA : appliesB r ⟨r.ageFrom, s.yearsFrom, (k : Int)⟩
        · have HF := Lib.hid (show comB r s (k : Int) = false by unfold comB; rw [HC.out, hA]; rfl)
          go_wp2_with (first | (refine wpList_load_agg rfl 58 _ rfl ⟨w.heap.size, 0, none⟩ rfl [.int .i64 r.ageFrom, .int .i64 r.ageTo, .int .i64 r.yearsFrom, .int .i64 r.yearsTo, .int .i64 r.kinds, .int .i64 r.outcome] hcR.out _ Try.underlying58 rfl Rule.size ?_) | (refine wpList_load_agg rfl 25 _ rfl ⟨w.heap.size + 1 + 1 + 1, 0, none⟩ rfl [.int .i64 r.ageFrom, .int .i64 s.yearsFrom, .int .i64 (k : Int)] hcC.out _ Try.underlying25 rfl Case.size ?_))
          refine (impl_applies_any r ⟨r.ageFrom, s.yearsFrom, (k : Int)⟩ hr ⟨by simp, by simp; omega⟩ _).mono ?_
          rw [hA]
          rintro e w2 ⟨rfl, hb2⟩
          have HBR9 := Lib.hid (HBR5.out.below' hb2)
          have HBS9 := Lib.hid (HBS5.out.below' hb2)
          have HBZ9 := Lib.hid (HBZ5.out.below' hb2)
          have HBC9 := Lib.hid (HBC5.out.below' hb2)
          have HBW9 := Lib.hid (HBW5.out.trans (hb2.mono HBW5.out.size))
          go_wp2
          go_roundw
          case rel => exact ⟨k + 1, (k : Int), by omega, by go_num, no_succ HN.out HF.out, HBR9, HBS9, HBZ9, HBC9, HBW9⟩
          case measure => simp [intOf]; omega
        cases hA2 : appliesB s ⟨r.ageFrom, s.yearsFrom, (k : Int)⟩
        · have HF := Lib.hid (show comB r s (k : Int) = false by unfold comB; rw [HC.out, hA, hA2]; rfl)
          go_wp2_with (first | (refine wpList_load_agg rfl 58 _ rfl ⟨w.heap.size, 0, none⟩ rfl [.int .i64 r.ageFrom, .int .i64 r.ageTo, .int .i64 r.yearsFrom, .int .i64 r.yearsTo, .int .i64 r.kinds, .int .i64 r.outcome] hcR.out _ Try.underlying58 rfl Rule.size ?_) | (refine wpList_load_agg rfl 25 _ rfl ⟨w.heap.size + 1 + 1 + 1, 0, none⟩ rfl [.int .i64 r.ageFrom, .int .i64 s.yearsFrom, .int .i64 (k : Int)] hcC.out _ Try.underlying25 rfl Case.size ?_))
          refine (impl_applies_any r ⟨r.ageFrom, s.yearsFrom, (k : Int)⟩ hr ⟨by simp, by simp; omega⟩ _).mono ?_
          rw [hA]
          rintro e w2 ⟨rfl, hb2⟩
          have hkS := HBS5.out.below' hb2
          have hkC := HBC5.out.below' hb2
          have s0 : w2.cell? ⟨w.heap.size + 1, 0, none⟩ = some (.int .i64 s.ageFrom) := hkS.cell 0
          have s1 : w2.cell? ⟨w.heap.size + 1, 1, none⟩ = some (.int .i64 s.ageTo) := hkS.cell 1
          have s2 : w2.cell? ⟨w.heap.size + 1, 2, none⟩ = some (.int .i64 s.yearsFrom) := hkS.cell 2
          have s3 : w2.cell? ⟨w.heap.size + 1, 3, none⟩ = some (.int .i64 s.yearsTo) := hkS.cell 3
          have s4 : w2.cell? ⟨w.heap.size + 1, 4, none⟩ = some (.int .i64 s.kinds) := hkS.cell 4
          have s5 : w2.cell? ⟨w.heap.size + 1, 5, none⟩ = some (.int .i64 s.outcome) := hkS.cell 5
          have c0 : w2.cell? ⟨w.heap.size + 1 + 1 + 1, 0, none⟩ = some (.int .i64 r.ageFrom) := hkC.cell 0
          have c1 : w2.cell? ⟨w.heap.size + 1 + 1 + 1, 1, none⟩ = some (.int .i64 s.yearsFrom) := hkC.cell 1
          have c2 : w2.cell? ⟨w.heap.size + 1 + 1 + 1, 2, none⟩ = some (.int .i64 (k : Int)) := hkC.cell 2
          clear hkS hkC
          go_wp2_with fail
          refine (impl_applies_any s ⟨r.ageFrom, s.yearsFrom, (k : Int)⟩ hs ⟨by simp, by simp; omega⟩ _).mono ?_
          rw [hA2]
          rintro e w3 ⟨rfl, hb3⟩
          have HBR9 := Lib.hid (HBR5.out.below' (below_step hb2 hb3))
          have HBS9 := Lib.hid (HBS5.out.below' (below_step hb2 hb3))
          have HBZ9 := Lib.hid (HBZ5.out.below' (below_step hb2 hb3))
          have HBC9 := Lib.hid (HBC5.out.below' (below_step hb2 hb3))
          have HBW9 := Lib.hid (HBW5.out.trans ((below_step hb2 hb3).mono HBW5.out.size))
          go_wp2
          go_roundw
          case rel => exact ⟨k + 1, (k : Int), by omega, by go_num, no_succ HN.out HF.out, HBR9, HBS9, HBZ9, HBC9, HBW9⟩
          case measure => simp [intOf]; omega
        · have HF := Lib.hid (com_first hlt HN.out (show comB r s (k : Int) = true by unfold comB; rw [HC.out, hA, hA2]; rfl))
          have H1 : Hid (∀ v ∈ ([.int .i64 r.ageFrom, .int .i64 s.yearsFrom, .int .i64 (k : Int)] : List Value), v.oneCell' = true) := Lib.hid (by simp [Value.oneCell'])
          go_wp2_with (first | (refine wpList_load_agg rfl 58 _ rfl ⟨w.heap.size, 0, none⟩ rfl [.int .i64 r.ageFrom, .int .i64 r.ageTo, .int .i64 r.yearsFrom, .int .i64 r.yearsTo, .int .i64 r.kinds, .int .i64 r.outcome] hcR.out _ Try.underlying58 rfl Rule.size ?_) | (refine wpList_load_agg rfl 25 _ rfl ⟨w.heap.size + 1 + 1 + 1, 0, none⟩ rfl [.int .i64 r.ageFrom, .int .i64 s.yearsFrom, .int .i64 (k : Int)] hcC.out _ Try.underlying25 rfl Case.size ?_))
          refine (impl_applies_any r ⟨r.ageFrom, s.yearsFrom, (k : Int)⟩ hr ⟨by simp, by simp; omega⟩ _).mono ?_
          rw [hA]
          rintro e w2 ⟨rfl, hb2⟩
          have hkS := HBS5.out.below' hb2
          have hkC := HBC5.out.below' hb2
          have s0 : w2.cell? ⟨w.heap.size + 1, 0, none⟩ = some (.int .i64 s.ageFrom) := hkS.cell 0
          have s1 : w2.cell? ⟨w.heap.size + 1, 1, none⟩ = some (.int .i64 s.ageTo) := hkS.cell 1
          have s2 : w2.cell? ⟨w.heap.size + 1, 2, none⟩ = some (.int .i64 s.yearsFrom) := hkS.cell 2
          have s3 : w2.cell? ⟨w.heap.size + 1, 3, none⟩ = some (.int .i64 s.yearsTo) := hkS.cell 3
          have s4 : w2.cell? ⟨w.heap.size + 1, 4, none⟩ = some (.int .i64 s.kinds) := hkS.cell 4
          have s5 : w2.cell? ⟨w.heap.size + 1, 5, none⟩ = some (.int .i64 s.outcome) := hkS.cell 5
          have c0 : w2.cell? ⟨w.heap.size + 1 + 1 + 1, 0, none⟩ = some (.int .i64 r.ageFrom) := hkC.cell 0
          have c1 : w2.cell? ⟨w.heap.size + 1 + 1 + 1, 1, none⟩ = some (.int .i64 s.yearsFrom) := hkC.cell 1
          have c2 : w2.cell? ⟨w.heap.size + 1 + 1 + 1, 2, none⟩ = some (.int .i64 (k : Int)) := hkC.cell 2
          clear hkS hkC
          go_wp2_with fail
          refine (impl_applies_any s ⟨r.ageFrom, s.yearsFrom, (k : Int)⟩ hs ⟨by simp, by simp; omega⟩ _).mono ?_
          rw [hA2]
          rintro e w3 ⟨rfl, hb3⟩
          have HBR9 := Lib.hid (HBR5.out.below' (below_step hb2 hb3))
          have HBS9 := Lib.hid (HBS5.out.below' (below_step hb2 hb3))
          have HBZ9 := Lib.hid (HBZ5.out.below' (below_step hb2 hb3))
          have HBC9 := Lib.hid (HBC5.out.below' (below_step hb2 hb3))
          have HBW9 := Lib.hid (HBW5.out.trans ((below_step hb2 hb3).mono HBW5.out.size))
          have hcC3 := Lib.hid (Blk.aggr (cs := [.int .i64 r.ageFrom, .int .i64 s.yearsFrom, .int .i64 (k : Int)]) HBC9.out)
          go_wp2_with (first | (refine wpList_load_agg rfl 25 _ rfl ⟨w.heap.size + 1 + 1 + 1, 0, none⟩ rfl [.int .i64 r.ageFrom, .int .i64 s.yearsFrom, .int .i64 (k : Int)] hcC3.out _ Try.underlying25 rfl Case.size ?_) | (refine wpList_store_agg rfl 25 _ _ rfl (w.heap.size + 1 + 1) 0 [.int .i64 r.ageFrom, .int .i64 s.yearsFrom, .int .i64 (k : Int)] rfl rfl 25 #[.int .i64 0, .int .i64 0, .int .i64 0] HBZ9.out Case.size (by simp) H1.out ?_))
          intro w6 hR6 hg6 _
          have hR6' : Blk w6 (w.heap.size + 1 + 1) 25 #[.int .i64 r.ageFrom, .int .i64 s.yearsFrom, .int .i64 (k : Int)] := hR6
          have r0 : w6.cell? ⟨w.heap.size + 1 + 1, 0, none⟩ = some (.int .i64 r.ageFrom) := hR6'.cell 0
          have r1 : w6.cell? ⟨w.heap.size + 1 + 1, 1, none⟩ = some (.int .i64 s.yearsFrom) := hR6'.cell 1
          have r2 : w6.cell? ⟨w.heap.size + 1 + 1, 2, none⟩ = some (.int .i64 (k : Int)) := hR6'.cell 2
          go_wp2
          refine bodyPost_ret (v := .tuple #[.agg #[.int .i64 r.ageFrom, .int .i64 s.yearsFrom, .int .i64 (k : Int)], .bool true]) (by simp [results, Try.results32, go_sem, r0, r1, r2]) rfl ?_
          exact ⟨⟨r.ageFrom, s.yearsFrom, (k : Int)⟩, by rw [HF.out]; rfl, (fun d hd => by rw [HF.out, HC.out] at hd; injection hd), case_fits HXB.out.1 HXB.out.2 ⟨by omega, by omega⟩, (HBW9.out.grown hg6 (Nat.le_of_lt (Nat.lt_of_le_of_lt (show w.heap.size ≤ w.heap.size + 1 + 1 by omega) HBZ9.out.lt)) (fun k hk => by injection hk with hk; omega))⟩
      · have hk4 : k = 4 := by omega
        subst hk4
        have HF := Lib.hid (com_none HN.out)
        have H1 : Hid (∀ v ∈ ([.int .i64 0, .int .i64 0, .int .i64 0] : List Value), v.oneCell' = true) := Lib.hid (by simp [Value.oneCell'])
        go_wp2_with (refine wpList_store_agg rfl 25 _ _ rfl (w.heap.size + 1 + 1) 0 [.int .i64 0, .int .i64 0, .int .i64 0] rfl rfl 25 #[.int .i64 0, .int .i64 0, .int .i64 0] HBZ.out Case.size (by simp) H1.out ?_)
        intro w6 hR6 hg6 _
        have hR6' : Blk w6 (w.heap.size + 1 + 1) 25 #[.int .i64 0, .int .i64 0, .int .i64 0] := hR6
        have r0 : w6.cell? ⟨w.heap.size + 1 + 1, 0, none⟩ = some (.int .i64 0) := hR6'.cell 0
        have r1 : w6.cell? ⟨w.heap.size + 1 + 1, 1, none⟩ = some (.int .i64 0) := hR6'.cell 1
        have r2 : w6.cell? ⟨w.heap.size + 1 + 1, 2, none⟩ = some (.int .i64 0) := hR6'.cell 2
        go_wp2
        refine bodyPost_ret (v := .tuple #[.agg #[.int .i64 0, .int .i64 0, .int .i64 0], .bool false]) (by simp [results, Try.results32, go_sem, r0, r1, r2]) rfl ?_
        exact ⟨⟨0, 0, 0⟩, by rw [HF.out]; rfl, (fun d hd => by rw [HF.out] at hd; cases hd), case_fits ⟨by omega, by omega⟩ ⟨by omega, by omega⟩ ⟨by omega, by omega⟩, (HBW.out.grown hg6 (Nat.le_of_lt (Nat.lt_of_le_of_lt (show w.heap.size ≤ w.heap.size + 1 + 1 by omega) HBZ.out.lt)) (fun k hk => by injection hk with hk; omega))⟩
  · have HC := Lib.hid (show ∀ k, comC r s k = ⟨r.ageFrom, r.yearsFrom, k⟩ from fun k => by unfold comC; rw [show max r.ageFrom s.ageFrom = r.ageFrom by omega, show max r.yearsFrom s.yearsFrom = r.yearsFrom by omega])
    have hbw : Below w.heap.size w ((((w.alloc (.cells #[.int .i64 r.ageFrom, .int .i64 r.ageTo, .int .i64 r.yearsFrom, .int .i64 r.yearsTo, .int .i64 r.kinds, .int .i64 r.outcome] 58)).alloc (.cells #[.int .i64 s.ageFrom, .int .i64 s.ageTo, .int .i64 s.yearsFrom, .int .i64 s.yearsTo, .int .i64 s.kinds, .int .i64 s.outcome] 58)).alloc (.cells #[.int .i64 0, .int .i64 0, .int .i64 0] 25)).alloc (.cells #[.int .i64 r.ageFrom, .int .i64 r.yearsFrom, .int .i64 0] 25)) := ((((Below.refl _ w).alloc (Nat.le_refl _) _).alloc (by simp) _).alloc (by simp <;> omega) _).alloc (by simp <;> omega) _
    have HBR := Lib.hid ((((Blk.new w 58 #[.int .i64 r.ageFrom, .int .i64 r.ageTo, .int .i64 r.yearsFrom, .int .i64 r.yearsTo, .int .i64 r.kinds, .int .i64 r.outcome]).alloc (.cells #[.int .i64 s.ageFrom, .int .i64 s.ageTo, .int .i64 s.yearsFrom, .int .i64 s.yearsTo, .int .i64 s.kinds, .int .i64 s.outcome] 58)).alloc (.cells #[.int .i64 0, .int .i64 0, .int .i64 0] 25)).alloc (.cells #[.int .i64 r.ageFrom, .int .i64 r.yearsFrom, .int .i64 0] 25))
    have HBS := Lib.hid (((Blk.new (w.alloc (.cells #[.int .i64 r.ageFrom, .int .i64 r.ageTo, .int .i64 r.yearsFrom, .int .i64 r.yearsTo, .int .i64 r.kinds, .int .i64 r.outcome] 58)) 58 #[.int .i64 s.ageFrom, .int .i64 s.ageTo, .int .i64 s.yearsFrom, .int .i64 s.yearsTo, .int .i64 s.kinds, .int .i64 s.outcome]).alloc (.cells #[.int .i64 0, .int .i64 0, .int .i64 0] 25)).alloc (.cells #[.int .i64 r.ageFrom, .int .i64 r.yearsFrom, .int .i64 0] 25))
    have HBZ := Lib.hid ((Blk.new ((w.alloc (.cells #[.int .i64 r.ageFrom, .int .i64 r.ageTo, .int .i64 r.yearsFrom, .int .i64 r.yearsTo, .int .i64 r.kinds, .int .i64 r.outcome] 58)).alloc (.cells #[.int .i64 s.ageFrom, .int .i64 s.ageTo, .int .i64 s.yearsFrom, .int .i64 s.yearsTo, .int .i64 s.kinds, .int .i64 s.outcome] 58)) 25 #[.int .i64 0, .int .i64 0, .int .i64 0]).alloc (.cells #[.int .i64 r.ageFrom, .int .i64 r.yearsFrom, .int .i64 0] 25))
    have HBC := Lib.hid (Blk.new (((w.alloc (.cells #[.int .i64 r.ageFrom, .int .i64 r.ageTo, .int .i64 r.yearsFrom, .int .i64 r.yearsTo, .int .i64 r.kinds, .int .i64 r.outcome] 58)).alloc (.cells #[.int .i64 s.ageFrom, .int .i64 s.ageTo, .int .i64 s.yearsFrom, .int .i64 s.yearsTo, .int .i64 s.kinds, .int .i64 s.outcome] 58)).alloc (.cells #[.int .i64 0, .int .i64 0, .int .i64 0] 25)) 25 #[.int .i64 r.ageFrom, .int .i64 r.yearsFrom, .int .i64 0])
    simp only [World.size_alloc] at HBS HBZ HBC
    have HXB := Lib.hid (show (0 ≤ r.ageFrom ∧ r.ageFrom ≤ 150) ∧ (0 ≤ r.yearsFrom ∧ r.yearsFrom ≤ 99) from ⟨by omega, by omega⟩)
    have HBW := Lib.hid hbw
    generalize ((((w.alloc (.cells #[.int .i64 r.ageFrom, .int .i64 r.ageTo, .int .i64 r.yearsFrom, .int .i64 r.yearsTo, .int .i64 r.kinds, .int .i64 r.outcome] 58)).alloc (.cells #[.int .i64 s.ageFrom, .int .i64 s.ageTo, .int .i64 s.yearsFrom, .int .i64 s.yearsTo, .int .i64 s.kinds, .int .i64 s.outcome] 58)).alloc (.cells #[.int .i64 0, .int .i64 0, .int .i64 0] 25)).alloc (.cells #[.int .i64 r.ageFrom, .int .i64 r.yearsFrom, .int .i64 0] 25)) = W at HBR HBS HBZ HBC HBW ⊢
    clear hbw
    go_loopw [19] (fun i wr => ∃ (k : Nat) (q : Int), k ≤ 4 ∧ i = .int .i64 k ∧ (∀ j : Int, 0 ≤ j → j < (k : Int) → comB r s j = false) ∧ Hid (Blk wr (w.heap.size) 58 #[.int .i64 r.ageFrom, .int .i64 r.ageTo, .int .i64 r.yearsFrom, .int .i64 r.yearsTo, .int .i64 r.kinds, .int .i64 r.outcome]) ∧ Hid (Blk wr (w.heap.size + 1) 58 #[.int .i64 s.ageFrom, .int .i64 s.ageTo, .int .i64 s.yearsFrom, .int .i64 s.yearsTo, .int .i64 s.kinds, .int .i64 s.outcome]) ∧ Hid (Blk wr (w.heap.size + 1 + 1) 25 #[.int .i64 0, .int .i64 0, .int .i64 0]) ∧ Hid (Blk wr (w.heap.size + 1 + 1 + 1) 25 #[.int .i64 r.ageFrom, .int .i64 r.yearsFrom, .int .i64 q]) ∧ Hid (Below w.heap.size w wr)) (fun i _ => 4 - (intOf i).toNat)
    case atStart => exact ⟨0, 0, by omega, rfl, fun j h1 h2 => by simp at h2; omega, HBR, HBS, HBZ, HBC, HBW⟩
    case round =>
      obtain ⟨k, q, hk, rfl, hno, HBR, HBS, HBZ, HBC, HBW⟩ := hrel
      have HN := Lib.hid hno; clear hno
      by_cases hlt : k < 4
      · have hki : (k : Int) < 4 := by omega
        have c3 : wr.cell? ⟨w.heap.size + 1 + 1 + 1, 2, none⟩ = some (.int .i64 q) := HBC.out.cell 2
        have z3 : wr.frozen? ⟨w.heap.size + 1 + 1 + 1, 2, none⟩ = false := HBC.out.frozen 2
        have HBC5 := Lib.hid (show Blk (wr.setCell ⟨w.heap.size + 1 + 1 + 1, 2, none⟩ (.int .i64 (k : Int))) (w.heap.size + 1 + 1 + 1) 25 #[.int .i64 r.ageFrom, .int .i64 r.yearsFrom, .int .i64 (k : Int)] by simpa using HBC.out.set_ 2 (.int .i64 (k : Int)))
        have HBR5 := Lib.hid (HBR.out.far (p := ⟨w.heap.size + 1 + 1 + 1, 2, none⟩) (by show w.heap.size ≠ w.heap.size + 1 + 1 + 1; omega) (.int .i64 (k : Int)))
        have HBS5 := Lib.hid (HBS.out.far (p := ⟨w.heap.size + 1 + 1 + 1, 2, none⟩) (by show w.heap.size + 1 ≠ w.heap.size + 1 + 1 + 1; omega) (.int .i64 (k : Int)))
        have HBZ5 := Lib.hid (HBZ.out.far (p := ⟨w.heap.size + 1 + 1 + 1, 2, none⟩) (by show w.heap.size + 1 + 1 ≠ w.heap.size + 1 + 1 + 1; omega) (.int .i64 (k : Int)))
        have HBW5 := Lib.hid (HBW.out.setCell (p := ⟨w.heap.size + 1 + 1 + 1, 2, none⟩) (by show w.heap.size ≤ w.heap.size + 1 + 1 + 1; omega) (.int .i64 (k : Int)))
        have hcR := Lib.hid (Blk.aggr (cs := [.int .i64 r.ageFrom, .int .i64 r.ageTo, .int .i64 r.yearsFrom, .int .i64 r.yearsTo, .int .i64 r.kinds, .int .i64 r.outcome]) HBR5.out)
        have hcC := Lib.hid (Blk.aggr (cs := [.int .i64 r.ageFrom, .int .i64 r.yearsFrom, .int .i64 (k : Int)]) HBC5.out)
        cases hA : appliesB r ⟨r.ageFrom, r.yearsFrom, (k : Int)⟩
        · have HF := Lib.hid (show comB r s (k : Int) = false by unfold comB; rw [HC.out, hA]; rfl)
          go_wp2_with (first | (refine wpList_load_agg rfl 58 _ rfl ⟨w.heap.size, 0, none⟩ rfl [.int .i64 r.ageFrom, .int .i64 r.ageTo, .int .i64 r.yearsFrom, .int .i64 r.yearsTo, .int .i64 r.kinds, .int .i64 r.outcome] hcR.out _ Try.underlying58 rfl Rule.size ?_) | (refine wpList_load_agg rfl 25 _ rfl ⟨w.heap.size + 1 + 1 + 1, 0, none⟩ rfl [.int .i64 r.ageFrom, .int .i64 r.yearsFrom, .int .i64 (k : Int)] hcC.out _ Try.underlying25 rfl Case.size ?_))
          refine (impl_applies_any r ⟨r.ageFrom, r.yearsFrom, (k : Int)⟩ hr ⟨by simp, by simp; omega⟩ _).mono ?_
          rw [hA]
          rintro e w2 ⟨rfl, hb2⟩
          have HBR9 := Lib.hid (HBR5.out.below' hb2)
          have HBS9 := Lib.hid (HBS5.out.below' hb2)
          have HBZ9 := Lib.hid (HBZ5.out.below' hb2)
          have HBC9 := Lib.hid (HBC5.out.below' hb2)
          have HBW9 := Lib.hid (HBW5.out.trans (hb2.mono HBW5.out.size))
          go_wp2
          go_roundw
          case rel => exact ⟨k + 1, (k : Int), by omega, by go_num, no_succ HN.out HF.out, HBR9, HBS9, HBZ9, HBC9, HBW9⟩
          case measure => simp [intOf]; omega
        cases hA2 : appliesB s ⟨r.ageFrom, r.yearsFrom, (k : Int)⟩
        · have HF := Lib.hid (show comB r s (k : Int) = false by unfold comB; rw [HC.out, hA, hA2]; rfl)
          go_wp2_with (first | (refine wpList_load_agg rfl 58 _ rfl ⟨w.heap.size, 0, none⟩ rfl [.int .i64 r.ageFrom, .int .i64 r.ageTo, .int .i64 r.yearsFrom, .int .i64 r.yearsTo, .int .i64 r.kinds, .int .i64 r.outcome] hcR.out _ Try.underlying58 rfl Rule.size ?_) | (refine wpList_load_agg rfl 25 _ rfl ⟨w.heap.size + 1 + 1 + 1, 0, none⟩ rfl [.int .i64 r.ageFrom, .int .i64 r.yearsFrom, .int .i64 (k : Int)] hcC.out _ Try.underlying25 rfl Case.size ?_))
          refine (impl_applies_any r ⟨r.ageFrom, r.yearsFrom, (k : Int)⟩ hr ⟨by simp, by simp; omega⟩ _).mono ?_
          rw [hA]
          rintro e w2 ⟨rfl, hb2⟩
          have hkS := HBS5.out.below' hb2
          have hkC := HBC5.out.below' hb2
          have s0 : w2.cell? ⟨w.heap.size + 1, 0, none⟩ = some (.int .i64 s.ageFrom) := hkS.cell 0
          have s1 : w2.cell? ⟨w.heap.size + 1, 1, none⟩ = some (.int .i64 s.ageTo) := hkS.cell 1
          have s2 : w2.cell? ⟨w.heap.size + 1, 2, none⟩ = some (.int .i64 s.yearsFrom) := hkS.cell 2
          have s3 : w2.cell? ⟨w.heap.size + 1, 3, none⟩ = some (.int .i64 s.yearsTo) := hkS.cell 3
          have s4 : w2.cell? ⟨w.heap.size + 1, 4, none⟩ = some (.int .i64 s.kinds) := hkS.cell 4
          have s5 : w2.cell? ⟨w.heap.size + 1, 5, none⟩ = some (.int .i64 s.outcome) := hkS.cell 5
          have c0 : w2.cell? ⟨w.heap.size + 1 + 1 + 1, 0, none⟩ = some (.int .i64 r.ageFrom) := hkC.cell 0
          have c1 : w2.cell? ⟨w.heap.size + 1 + 1 + 1, 1, none⟩ = some (.int .i64 r.yearsFrom) := hkC.cell 1
          have c2 : w2.cell? ⟨w.heap.size + 1 + 1 + 1, 2, none⟩ = some (.int .i64 (k : Int)) := hkC.cell 2
          clear hkS hkC
          go_wp2_with fail
          refine (impl_applies_any s ⟨r.ageFrom, r.yearsFrom, (k : Int)⟩ hs ⟨by simp, by simp; omega⟩ _).mono ?_
          rw [hA2]
          rintro e w3 ⟨rfl, hb3⟩
          have HBR9 := Lib.hid (HBR5.out.below' (below_step hb2 hb3))
          have HBS9 := Lib.hid (HBS5.out.below' (below_step hb2 hb3))
          have HBZ9 := Lib.hid (HBZ5.out.below' (below_step hb2 hb3))
          have HBC9 := Lib.hid (HBC5.out.below' (below_step hb2 hb3))
          have HBW9 := Lib.hid (HBW5.out.trans ((below_step hb2 hb3).mono HBW5.out.size))
          go_wp2
          go_roundw
          case rel => exact ⟨k + 1, (k : Int), by omega, by go_num, no_succ HN.out HF.out, HBR9, HBS9, HBZ9, HBC9, HBW9⟩
          case measure => simp [intOf]; omega
        · have HF := Lib.hid (com_first hlt HN.out (show comB r s (k : Int) = true by unfold comB; rw [HC.out, hA, hA2]; rfl))
          have H1 : Hid (∀ v ∈ ([.int .i64 r.ageFrom, .int .i64 r.yearsFrom, .int .i64 (k : Int)] : List Value), v.oneCell' = true) := Lib.hid (by simp [Value.oneCell'])
          go_wp2_with (first | (refine wpList_load_agg rfl 58 _ rfl ⟨w.heap.size, 0, none⟩ rfl [.int .i64 r.ageFrom, .int .i64 r.ageTo, .int .i64 r.yearsFrom, .int .i64 r.yearsTo, .int .i64 r.kinds, .int .i64 r.outcome] hcR.out _ Try.underlying58 rfl Rule.size ?_) | (refine wpList_load_agg rfl 25 _ rfl ⟨w.heap.size + 1 + 1 + 1, 0, none⟩ rfl [.int .i64 r.ageFrom, .int .i64 r.yearsFrom, .int .i64 (k : Int)] hcC.out _ Try.underlying25 rfl Case.size ?_))
          refine (impl_applies_any r ⟨r.ageFrom, r.yearsFrom, (k : Int)⟩ hr ⟨by simp, by simp; omega⟩ _).mono ?_
          rw [hA]
          rintro e w2 ⟨rfl, hb2⟩
          have hkS := HBS5.out.below' hb2
          have hkC := HBC5.out.below' hb2
          have s0 : w2.cell? ⟨w.heap.size + 1, 0, none⟩ = some (.int .i64 s.ageFrom) := hkS.cell 0
          have s1 : w2.cell? ⟨w.heap.size + 1, 1, none⟩ = some (.int .i64 s.ageTo) := hkS.cell 1
          have s2 : w2.cell? ⟨w.heap.size + 1, 2, none⟩ = some (.int .i64 s.yearsFrom) := hkS.cell 2
          have s3 : w2.cell? ⟨w.heap.size + 1, 3, none⟩ = some (.int .i64 s.yearsTo) := hkS.cell 3
          have s4 : w2.cell? ⟨w.heap.size + 1, 4, none⟩ = some (.int .i64 s.kinds) := hkS.cell 4
          have s5 : w2.cell? ⟨w.heap.size + 1, 5, none⟩ = some (.int .i64 s.outcome) := hkS.cell 5
          have c0 : w2.cell? ⟨w.heap.size + 1 + 1 + 1, 0, none⟩ = some (.int .i64 r.ageFrom) := hkC.cell 0
          have c1 : w2.cell? ⟨w.heap.size + 1 + 1 + 1, 1, none⟩ = some (.int .i64 r.yearsFrom) := hkC.cell 1
          have c2 : w2.cell? ⟨w.heap.size + 1 + 1 + 1, 2, none⟩ = some (.int .i64 (k : Int)) := hkC.cell 2
          clear hkS hkC
          go_wp2_with fail
          refine (impl_applies_any s ⟨r.ageFrom, r.yearsFrom, (k : Int)⟩ hs ⟨by simp, by simp; omega⟩ _).mono ?_
          rw [hA2]
          rintro e w3 ⟨rfl, hb3⟩
          have HBR9 := Lib.hid (HBR5.out.below' (below_step hb2 hb3))
          have HBS9 := Lib.hid (HBS5.out.below' (below_step hb2 hb3))
          have HBZ9 := Lib.hid (HBZ5.out.below' (below_step hb2 hb3))
          have HBC9 := Lib.hid (HBC5.out.below' (below_step hb2 hb3))
          have HBW9 := Lib.hid (HBW5.out.trans ((below_step hb2 hb3).mono HBW5.out.size))
          have hcC3 := Lib.hid (Blk.aggr (cs := [.int .i64 r.ageFrom, .int .i64 r.yearsFrom, .int .i64 (k : Int)]) HBC9.out)
          go_wp2_with (first | (refine wpList_load_agg rfl 25 _ rfl ⟨w.heap.size + 1 + 1 + 1, 0, none⟩ rfl [.int .i64 r.ageFrom, .int .i64 r.yearsFrom, .int .i64 (k : Int)] hcC3.out _ Try.underlying25 rfl Case.size ?_) | (refine wpList_store_agg rfl 25 _ _ rfl (w.heap.size + 1 + 1) 0 [.int .i64 r.ageFrom, .int .i64 r.yearsFrom, .int .i64 (k : Int)] rfl rfl 25 #[.int .i64 0, .int .i64 0, .int .i64 0] HBZ9.out Case.size (by simp) H1.out ?_))
          intro w6 hR6 hg6 _
          have hR6' : Blk w6 (w.heap.size + 1 + 1) 25 #[.int .i64 r.ageFrom, .int .i64 r.yearsFrom, .int .i64 (k : Int)] := hR6
          have r0 : w6.cell? ⟨w.heap.size + 1 + 1, 0, none⟩ = some (.int .i64 r.ageFrom) := hR6'.cell 0
          have r1 : w6.cell? ⟨w.heap.size + 1 + 1, 1, none⟩ = some (.int .i64 r.yearsFrom) := hR6'.cell 1
          have r2 : w6.cell? ⟨w.heap.size + 1 + 1, 2, none⟩ = some (.int .i64 (k : Int)) := hR6'.cell 2
          go_wp2
          refine bodyPost_ret (v := .tuple #[.agg #[.int .i64 r.ageFrom, .int .i64 r.yearsFrom, .int .i64 (k : Int)], .bool true]) (by simp [results, Try.results32, go_sem, r0, r1, r2]) rfl ?_
          exact ⟨⟨r.ageFrom, r.yearsFrom, (k : Int)⟩, by rw [HF.out]; rfl, (fun d hd => by rw [HF.out, HC.out] at hd; injection hd), case_fits HXB.out.1 HXB.out.2 ⟨by omega, by omega⟩, (HBW9.out.grown hg6 (Nat.le_of_lt (Nat.lt_of_le_of_lt (show w.heap.size ≤ w.heap.size + 1 + 1 by omega) HBZ9.out.lt)) (fun k hk => by injection hk with hk; omega))⟩
      · have hk4 : k = 4 := by omega
        subst hk4
        have HF := Lib.hid (com_none HN.out)
        have H1 : Hid (∀ v ∈ ([.int .i64 0, .int .i64 0, .int .i64 0] : List Value), v.oneCell' = true) := Lib.hid (by simp [Value.oneCell'])
        go_wp2_with (refine wpList_store_agg rfl 25 _ _ rfl (w.heap.size + 1 + 1) 0 [.int .i64 0, .int .i64 0, .int .i64 0] rfl rfl 25 #[.int .i64 0, .int .i64 0, .int .i64 0] HBZ.out Case.size (by simp) H1.out ?_)
        intro w6 hR6 hg6 _
        have hR6' : Blk w6 (w.heap.size + 1 + 1) 25 #[.int .i64 0, .int .i64 0, .int .i64 0] := hR6
        have r0 : w6.cell? ⟨w.heap.size + 1 + 1, 0, none⟩ = some (.int .i64 0) := hR6'.cell 0
        have r1 : w6.cell? ⟨w.heap.size + 1 + 1, 1, none⟩ = some (.int .i64 0) := hR6'.cell 1
        have r2 : w6.cell? ⟨w.heap.size + 1 + 1, 2, none⟩ = some (.int .i64 0) := hR6'.cell 2
        go_wp2
        refine bodyPost_ret (v := .tuple #[.agg #[.int .i64 0, .int .i64 0, .int .i64 0], .bool false]) (by simp [results, Try.results32, go_sem, r0, r1, r2]) rfl ?_
        exact ⟨⟨0, 0, 0⟩, by rw [HF.out]; rfl, (fun d hd => by rw [HF.out] at hd; cases hd), case_fits ⟨by omega, by omega⟩ ⟨by omega, by omega⟩ ⟨by omega, by omega⟩, (HBW.out.grown hg6 (Nat.le_of_lt (Nat.lt_of_le_of_lt (show w.heap.size ≤ w.heap.size + 1 + 1 by omega) HBZ.out.lt)) (fun k hk => by injection hk with hk; omega))⟩

end Go.Proofs.Ytlbllonpodckgaa
