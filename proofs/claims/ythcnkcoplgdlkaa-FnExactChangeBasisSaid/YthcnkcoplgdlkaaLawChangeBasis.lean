/- The law on ChangeBasis: the program's and the reference's results are equal, and the arguments are left as they were. No condition. -/
import Derived.Test.YthcnkcoplgdlkaaChg2
import Derived.Test.YthcnkcoplgdlkaaLawC
import Derived.Test.YthcnkcoplgdlkaaStInt
import Derived.Test.YthcnkcoplgdlkaaStScenario
import Derived.Test.YthcnkcoplgdlkaaLaw
import Derived.Test.YthcnkcoplgdlkaaBase2
import Derived.Deep.DeepCutAuto
namespace Go.Proofs.Ythcnkcoplgdlkaa
open Go.ChangeShapes Go.WideShapes Go.ChangeAt Go.RowKit Go.Deep
namespace fnExactChangeBasis
set_option maxRecDepth 100000 in
set_option maxHeartbeats 4000000 in
theorem walk (b0 : Bas) (A0 : Option Addr) (n0 c0 : Nat) (r1 : Scenario) (w : World) (hn0 : n0 ≤ maxLen) (hl0 : b0.lives.length = n0) (hX0 : Rd w w.heap.size A0 1 (intRows b0.lives)) (hf0 : ∀ x ∈ b0.lives, In64 x) (i0 : In64 b0.first) (j0 : In64 b0.rate) (f1 : r1.fits) :
    Calls Try.prog 3 #[.agg #[.int .i64 b0.first, .slice A0 n0 c0, .int .i64 b0.rate], .agg r1.row.toArray] w fun e w' => e = .returned (.bool true) ∧ Below w.heap.size w w' := by
  unfold maxLen at *
  have BK0 : Below w.heap.size w ((w.alloc (.cells #[.int .i64 b0.first, .slice A0 n0 c0, .int .i64 b0.rate] 26)).alloc (.cells r1.row.toArray 28)) := (((Below.refl _ w).alloc (by simp <;> omega) _).alloc (by simp <;> omega) _)
  have HA0 := Lib.hid ((Blk.new w 26 #[.int .i64 b0.first, .slice A0 n0 c0, .int .i64 b0.rate]).alloc (.cells r1.row.toArray 28))
  have HA1 := Lib.hid (Blk.new (w.alloc (.cells #[.int .i64 b0.first, .slice A0 n0 c0, .int .i64 b0.rate] 26)) 28 r1.row.toArray)
  simp only [World.size_alloc] at HA1
  by_cases hs0 : (n0 : Int) ≤ 1048576
  rotate_left
  · clear hX0 hf0 hl0 i0 j0 f1
    go_enter Try.func3, Try.ntmps3
    have hc0 := Lib.hid (Blk.agg (cs := [.int .i64 b0.first, .slice A0 n0 c0, .int .i64 b0.rate]) HA0.out 0 [.int .i64 b0.first, .slice A0 n0 c0, .int .i64 b0.rate] rfl)
    go_wp2_with (refine wpList_load_agg rfl 26 _ rfl ⟨w.heap.size, 0, none⟩ rfl [.int .i64 b0.first, .slice A0 n0 c0, .int .i64 b0.rate] hc0.out _ Try.underlying26 rfl LawBas.size ?_)
    refine (szBasis_no _ _ _ _ _ _ _ (by omega) (by omega) (by omega) (by omega)).mono ?_
    rintro e v1 ⟨rfl, hg1⟩
    have BKg1 := BK0.trans (hg1.mono BK0.size)
    have HAg1 := Lib.hid (HA1.out.below' hg1)
    go_wp2
    go_ret
    exact ⟨rfl, BKg1⟩
  have hs0' : n0 ≤ 1048576 := by omega
  have HLT0 := Lib.hid (show LiesT w A0 n0 b0.lives from ⟨hl0, hs0', hX0, hf0⟩)
  have HT0 := Lib.hid (show b0.lives.length = n0 ∧ n0 ≤ 1048576 ∧ (∀ x ∈ b0.lives, In64 x) ∧ In64 b0.first ∧ In64 b0.rate from ⟨hl0, hs0', hf0, i0, j0⟩)
  clear hl0 hX0 hf0 i0 j0
  have HF1 := Lib.hid f1; clear f1
  go_enter Try.func3, Try.ntmps3
  have hcHA0 := Lib.hid (Blk.agg (cs := [.int .i64 b0.first, .slice A0 n0 c0, .int .i64 b0.rate]) HA0.out 0 [.int .i64 b0.first, .slice A0 n0 c0, .int .i64 b0.rate] rfl)
  go_wp2_with (first | (refine wpList_load_agg rfl 26 _ rfl ⟨w.heap.size, 0, none⟩ rfl [.int .i64 b0.first, .slice A0 n0 c0, .int .i64 b0.rate] hcHA0.out _ Try.underlying26 rfl LawBas.size ?_))
  refine (szBasis_yes _ _ _ _ _ _ _ (by omega) (by omega)).mono ?_
  rintro e w1 ⟨rfl, hb1⟩
  clear hcHA0
  have BK1 := BK0.trans (hb1.mono BK0.size)
  have hz1 : w.heap.size + 1 + 1 ≤ w1.heap.size := by have := hb1.size; simpa using this
  replace HA0 := Lib.hid (HA0.out.below' hb1)
  replace HA1 := Lib.hid (HA1.out.below' hb1)
  clear hb1
  have HS := Lib.hid (show ∀ w', Below w1.heap.size w1 w' → Below w1.heap.size w1 w' ∧ w'.cell? ⟨w.heap.size, 0, none⟩ = some (.int .i64 b0.first) ∧ w'.cell? ⟨w.heap.size, 1, none⟩ = some (.slice A0 n0 c0) ∧ w'.cell? ⟨w.heap.size, 2, none⟩ = some (.int .i64 b0.rate) ∧ w'.cell? ⟨w.heap.size + 1, 0, none⟩ = some (.int .i64 r1.rate) ∧ w'.cell? ⟨w.heap.size + 1, 1, none⟩ = some (.int .i64 r1.death) from fun w' q => by
    have hx0 := HA0.out.below' q
    have hx1 := HA1.out.below' q
    exact ⟨q, (hx0.cell 0), (hx0.cell 1), (hx0.cell 2), (hx1.cell 0), (hx1.cell 1)⟩)
  have HP := Lib.hid (fun w' (q : Below w1.heap.size w1 w') (o : Obj) => q.alloc q.size o)
  have HDR := Lib.hid ((Below.refl w1.heap.size w1).drew)
  have BKr := BK1
  go_wp2
  go_cut [6, 7] (fun s t wx => ∃ (g : Nat) (A : Option Addr) (n c : Nat), s = .pointer (some ⟨g, 0, none⟩) ∧ t = .int .i64 (chgBP b0 r1).2 ∧ Hid (Blk wx g 32 #[.int .i64 (chgBP b0 r1).1.first, .slice A n c, .int .i64 (chgBP b0 r1).1.rate]) ∧ Hid (Res w1.heap.size wx 2 1 A n c (intRows ((chgBP b0 r1).1.lives))) ∧ Hid (Below w1.heap.size w1 wx) ∧ Hid (w1.heap.size ≤ g ∧ g < wx.heap.size) ∧ Hid (∀ g', A = some ⟨g', 0, none⟩ → g ≠ g'))
  case first =>
    go_region_held3 (fun w' => Below w1.heap.size w1 w' ∧ w'.cell? ⟨w.heap.size, 0, none⟩ = some (.int .i64 b0.first) ∧ w'.cell? ⟨w.heap.size, 1, none⟩ = some (.slice A0 n0 c0) ∧ w'.cell? ⟨w.heap.size, 2, none⟩ = some (.int .i64 b0.rate) ∧ w'.cell? ⟨w.heap.size + 1, 0, none⟩ = some (.int .i64 r1.rate) ∧ w'.cell? ⟨w.heap.size + 1, 1, none⟩ = some (.int .i64 r1.death)) (first | exact HS.out _ (HP.out _ hcc4 _) | exact HS.out _ hcc4 | exact HS.out _ (HP.out _ hcc3 _) | exact HS.out _ hcc3 | exact HS.out _ (HP.out _ hcc2 _) | exact HS.out _ hcc2 | exact HS.out _ (Below.setCell (Below.setCell (Below.setCell hcc4 (Nat.le_refl _) _) (Nat.le_refl _) _) (Nat.le_refl _) _) | exact HS.out _ (Below.setCell (Below.setCell (Below.setCell hcc4 hcc2.size _) hcc2.size _) hcc2.size _) | exact HS.out _ (Below.setCell (Below.setCell (Below.setCell hcc4 hcc3.size _) hcc3.size _) hcc3.size _) | exact HS.out _ (Below.setCell (Below.setCell (Below.setCell hcc4 hcc4.size _) hcc4.size _) hcc4.size _) | exact HS.out _ (HP.out _ HDR.out _) | exact HS.out _ HDR.out) (first | (go_at_call 14; refine (toBasis_any b0 A0 n0 c0 _ (by first | exact HLT0.out.past (BKr.trans (HDR.out.mono BKr.size)) | exact HLT0.out.past (BKr.trans ((HP.out _ HDR.out _).mono BKr.size)))).mono ?_; rintro e w2 ⟨gw0, rfl, hHRw0, hb2⟩; have hcc2 : Below w1.heap.size w1 w2 := (by first | exact HDR.out.trans (hb2.mono HDR.out.size) | exact (HP.out _ HDR.out _).trans (hb2.mono (HP.out _ HDR.out _).size)); (first | (have HZ2 := Lib.hid (Blk.below' (Blk.new w1 32 #[.int .i64 0, .slice none 0 0, .int .i64 0]).drew hb2); (try simp only [World.size_alloc] at HZ2)) | skip); have HRw0 := Lib.hid hHRw0; clear hHRw0) | (go_at_call 15; refine (toScenario_any r1 _).mono ?_; rintro e w3 ⟨rfl, hb3⟩; have hcc3 : Below w1.heap.size w1 w3 := (by first | exact hcc2.trans (hb3.mono hcc2.size) | exact (HP.out _ hcc2 _).trans (hb3.mono (HP.out _ hcc2 _).size)); have hx3 : Below w2.heap.size w2 w3 := (by first | exact hb3 | exact below_step ((Below.refl _ _).alloc (Nat.le_refl _) _) hb3); (first | (have HZ3 := Lib.hid (HZ2.out.below' hx3)) | (have HZ3 := Lib.hid (Blk.below' (Blk.new w2 32 #[.int .i64 0, .slice none 0 0, .int .i64 0]) hb3)) | skip); have HRw0_3 := Lib.hid (HRw0.out.past hx3); have HFN0 := Lib.hid (fun X (q : Below w3.heap.size w3 X) => (show BasT X (some ⟨gw0, 0, none⟩) n0 n0 b0 from basT_of (HRw0_3.out.past q) HT0.out))) | (go_at_call 13; refine (spec_ChangeBasis_any b0 (some ⟨gw0, 0, none⟩) n0 n0 r1 _ (HFN0.out _ (by first | exact Below.refl _ _ | exact (Below.refl _ _).alloc (Nat.le_refl _) _)) HF1.out).mono ?_; rintro e w4 ⟨AW0, nW0, cW0, rfl, hHRW0, hb4⟩; have hcc4 : Below w1.heap.size w1 w4 := (by first | exact hcc3.trans (hb4.mono hcc3.size) | exact (HP.out _ hcc3 _).trans (hb4.mono (HP.out _ hcc3 _).size)); have hx4 : Below w3.heap.size w3 w4 := (by first | exact hb4 | exact below_step ((Below.refl _ _).alloc (Nat.le_refl _) _) hb4); (first | (have HZ4 := Lib.hid (HZ3.out.below' hx4)) | (have HZ4 := Lib.hid (Blk.below' (Blk.new w3 32 #[.int .i64 0, .slice none 0 0, .int .i64 0]) hb4)) | skip); have HRw0_4 := Lib.hid (HRw0_3.out.past hx4); have HRW0 := Lib.hid hHRW0; clear hHRW0; (first | (have zc0 := (HZ4.out.cell 0).trans (show _ = some (Value.int .i64 0) from rfl); have zf0 := HZ4.out.frozen 0; have zc1 := (HZ4.out.cell 1).trans (show _ = some (Value.slice none 0 0) from rfl); have zf1 := HZ4.out.frozen 1; have zc2 := (HZ4.out.cell 2).trans (show _ = some (Value.int .i64 0) from rfl); have zf2 := HZ4.out.frozen 2) | skip)))
    all_goals (rename Below w1.heap.size w1 _ ∧ _ => hE; clear hE)
    all_goals go_wp2_with fail
    all_goals go_meet
    all_goals case rel =>
      refine ⟨_, AW0, nW0, cW0, rfl, rfl, Lib.hid ?_, Lib.hid ?_, Lib.hid ?_, Lib.hid ⟨?_, ?_⟩, Lib.hid ?_⟩
      · first | (have h9 := ((HZ4.out.set_ 0 (.int .i64 (chgBP b0 r1).1.first)).set_ 1 (.slice AW0 nW0 cW0)).set_ 2 (.int .i64 (chgBP b0 r1).1.rate); simpa using h9) | exact Blk.new _ _ _
      · have h4 : w1.heap.size ≤ w3.heap.size := hcc3.size
        have hM : Res (w1.heap.size) w4 2 1 AW0 nW0 cW0 (intRows ((chgBP b0 r1).1.lives)) := by first | exact HRW0.out.more h4 | exact HRW0.out.more (Nat.le_trans h4 (by simp))
        first | (have h8 := HZ4.out.lt; refine hM.keep fun q hq => ?_; have h7 := HRW0.out.lt hq; (try simp only [World.size_alloc] at h7); (try have h5 := HZ3.out.lt); exact ((Below.heap_setCell _ _ _ _ (by intro h9; dsimp only at h9; omega)).trans (Below.heap_setCell _ _ _ _ (by intro h9; dsimp only at h9; omega))).trans (Below.heap_setCell _ _ _ _ (by intro h9; dsimp only at h9; omega))) | exact hM.past ((Below.refl _ _).alloc (Nat.le_refl _) _)
      · first | (have h8 := HZ4.out; exact Below.setCell (Below.setCell (Below.setCell hcc4 (Nat.le_refl _) _) (Nat.le_refl _) _) (Nat.le_refl _) _) | (have h8 := HZ4.out; exact Below.setCell (Below.setCell (Below.setCell hcc4 hcc2.size _) hcc2.size _) hcc2.size _) | (have h8 := HZ4.out; exact Below.setCell (Below.setCell (Below.setCell hcc4 hcc3.size _) hcc3.size _) hcc3.size _) | (have h8 := HZ4.out; exact Below.setCell (Below.setCell (Below.setCell hcc4 hcc4.size _) hcc4.size _) hcc4.size _) | exact HP.out _ hcc4 _
      · first | exact (Nat.le_refl _) | exact hcc2.size | exact hcc3.size | exact hcc4.size
      · first | (simp; done) | (have h8 := HZ4.out.lt; simpa using h8)
      · intro q hq; have h7 := HRW0.out.lt hq; (try simp only [World.size_alloc] at h7); (try have h8 := HZ3.out.lt); omega
  obtain ⟨gBW0, AW0, nW0, cW0, rfl, rfl, HYW0, HRW0, hBW, hgb, HNEW0⟩ := hcut
  obtain ⟨w5, hwK⟩ : ∃ x, x = wc := ⟨wc, rfl⟩
  subst hwK
  have hgb1W0 : w1.heap.size ≤ gBW0 := by have h9 := hgb.out.1; simpa using h9
  have hgb2W0 := hgb.out.2
  have BK5 := BK1.trans (hBW.out.mono BK1.size)
  have hz5 : w1.heap.size ≤ w5.heap.size := by have h9 := hBW.out.size; simpa using h9
  replace HA0 := Lib.hid (HA0.out.below' hBW.out)
  replace HA1 := Lib.hid (HA1.out.below' hBW.out)
  clear hBW hgb HS HP HDR BKr
  have hwW0 := Lib.hid (fun g (hg : AW0 = some ⟨g, 0, none⟩) => show w1.heap.size ≤ g ∧ g < w5.heap.size by have h9 := HRW0.out.lt hg; simpa using h9)
  have hmW0 : nW0 ≤ 1048576 := by have h1 := HRW0.out.len; rw [intRows_length] at h1; have := chgB_small b0 r1; omega
  have hcHA0 := Lib.hid (Blk.agg (cs := [.int .i64 b0.first, .slice A0 n0 c0, .int .i64 b0.rate]) HA0.out 0 [.int .i64 b0.first, .slice A0 n0 c0, .int .i64 b0.rate] rfl)
  go_wp2_with (first | (refine wpList_load_agg rfl 26 _ rfl ⟨w.heap.size, 0, none⟩ rfl [.int .i64 b0.first, .slice A0 n0 c0, .int .i64 b0.rate] hcHA0.out _ Try.underlying26 rfl LawBas.size ?_))
  refine (toBasis_any b0 A0 n0 c0 _ (HLT0.out.past BK5)).mono ?_
  rintro e w6 ⟨gx0, rfl, hHRx0, hb6⟩
  clear hcHA0
  have BK6 := BK5.trans (hb6.mono BK5.size)
  have hz6 : w5.heap.size ≤ w6.heap.size := hb6.size
  replace HA0 := Lib.hid (HA0.out.below' hb6)
  replace HA1 := Lib.hid (HA1.out.below' hb6)
  replace HRW0 := Lib.hid (HRW0.out.past hb6)
  replace HYW0 := Lib.hid (HYW0.out.below' hb6)
  clear hb6
  have HRx0 := Lib.hid hHRx0; clear hHRx0
  have hwx0 := Lib.hid (fun g (hg : some (⟨gx0, 0, none⟩ : Addr) = some ⟨g, 0, none⟩) => show w5.heap.size ≤ g ∧ g < w6.heap.size by have h9 := HRx0.out.lt hg; simpa using h9)
  have hbax0 : Below w6.heap.size w6 (w6.alloc (.cells #[.int .i64 b0.first, .slice (some ⟨gx0, 0, none⟩) n0 n0, .int .i64 b0.rate] 32)) := (Below.refl _ _).alloc (Nat.le_refl _) _
  replace HA0 := Lib.hid (HA0.out.below' hbax0)
  replace HA1 := Lib.hid (HA1.out.below' hbax0)
  replace HRW0 := Lib.hid (HRW0.out.past hbax0)
  replace HYW0 := Lib.hid (HYW0.out.below' hbax0)
  replace HRx0 := Lib.hid (HRx0.out.past hbax0)
  have HYx0 := Lib.hid (Blk.new w6 32 #[.int .i64 b0.first, .slice (some ⟨gx0, 0, none⟩) n0 n0, .int .i64 b0.rate])
  replace BK6 := BK6.trans (hbax0.mono BK6.size)
  clear hbax0
  have HS := Lib.hid (show ∀ w', Below (w6.alloc (.cells #[.int .i64 b0.first, .slice (some ⟨gx0, 0, none⟩) n0 n0, .int .i64 b0.rate] 32)).heap.size (w6.alloc (.cells #[.int .i64 b0.first, .slice (some ⟨gx0, 0, none⟩) n0 n0, .int .i64 b0.rate] 32)) w' → Below (w6.alloc (.cells #[.int .i64 b0.first, .slice (some ⟨gx0, 0, none⟩) n0 n0, .int .i64 b0.rate] 32)).heap.size (w6.alloc (.cells #[.int .i64 b0.first, .slice (some ⟨gx0, 0, none⟩) n0 n0, .int .i64 b0.rate] 32)) w' ∧ w'.cell? ⟨w6.heap.size, 0, none⟩ = some (.int .i64 b0.first) ∧ w'.cell? ⟨w6.heap.size, 1, none⟩ = some (.slice (some ⟨gx0, 0, none⟩) n0 n0) ∧ w'.cell? ⟨w6.heap.size, 2, none⟩ = some (.int .i64 b0.rate) ∧ w'.cell? ⟨w.heap.size + 1, 0, none⟩ = some (.int .i64 r1.rate) ∧ w'.cell? ⟨w.heap.size + 1, 1, none⟩ = some (.int .i64 r1.death) from fun w' q => by
    have hx0 := HYx0.out.below' q
    have hx1 := HA1.out.below' q
    exact ⟨q, (hx0.cell 0), (hx0.cell 1), (hx0.cell 2), (hx1.cell 0), (hx1.cell 1)⟩)
  have HP := Lib.hid (fun w' (q : Below (w6.alloc (.cells #[.int .i64 b0.first, .slice (some ⟨gx0, 0, none⟩) n0 n0, .int .i64 b0.rate] 32)).heap.size (w6.alloc (.cells #[.int .i64 b0.first, .slice (some ⟨gx0, 0, none⟩) n0 n0, .int .i64 b0.rate] 32)) w') (o : Obj) => q.alloc q.size o)
  have HDR := Lib.hid ((Below.refl (w6.alloc (.cells #[.int .i64 b0.first, .slice (some ⟨gx0, 0, none⟩) n0 n0, .int .i64 b0.rate] 32)).heap.size (w6.alloc (.cells #[.int .i64 b0.first, .slice (some ⟨gx0, 0, none⟩) n0 n0, .int .i64 b0.rate] 32))).drew)
  have BKr := BK6
  have HWZ := Lib.hid (show (w6.alloc (.cells #[.int .i64 b0.first, .slice (some ⟨gx0, 0, none⟩) n0 n0, .int .i64 b0.rate] 32)).heap.size ≤ w6.heap.size + 1 by simp)
  have HFN0 := Lib.hid (fun X (q : Below (w6.alloc (.cells #[.int .i64 b0.first, .slice (some ⟨gx0, 0, none⟩) n0 n0, .int .i64 b0.rate] 32)).heap.size (w6.alloc (.cells #[.int .i64 b0.first, .slice (some ⟨gx0, 0, none⟩) n0 n0, .int .i64 b0.rate] 32)) X) => (show BasT X (some ⟨gx0, 0, none⟩) n0 n0 b0 from basT_of (HRx0.out.past q) HT0.out))
  go_wp2
  go_cut [9, 10] (fun s t wx => ∃ (g : Nat) (A : Option Addr) (n c : Nat), s = .pointer (some ⟨g, 0, none⟩) ∧ t = .int .i64 (chgBP b0 r1).2 ∧ Hid (Blk wx g 32 #[.int .i64 (chgBP b0 r1).1.first, .slice A n c, .int .i64 (chgBP b0 r1).1.rate]) ∧ Hid (Res (w6.alloc (.cells #[.int .i64 b0.first, .slice (some ⟨gx0, 0, none⟩) n0 n0, .int .i64 b0.rate] 32)).heap.size wx 2 1 A n c (intRows ((chgBP b0 r1).1.lives))) ∧ Hid (Below (w6.alloc (.cells #[.int .i64 b0.first, .slice (some ⟨gx0, 0, none⟩) n0 n0, .int .i64 b0.rate] 32)).heap.size (w6.alloc (.cells #[.int .i64 b0.first, .slice (some ⟨gx0, 0, none⟩) n0 n0, .int .i64 b0.rate] 32)) wx) ∧ Hid ((w6.alloc (.cells #[.int .i64 b0.first, .slice (some ⟨gx0, 0, none⟩) n0 n0, .int .i64 b0.rate] 32)).heap.size ≤ g ∧ g < wx.heap.size) ∧ Hid (∀ g', A = some ⟨g', 0, none⟩ → g ≠ g'))
  case first =>
    go_region_held3 (fun w' => Below (w6.alloc (.cells #[.int .i64 b0.first, .slice (some ⟨gx0, 0, none⟩) n0 n0, .int .i64 b0.rate] 32)).heap.size (w6.alloc (.cells #[.int .i64 b0.first, .slice (some ⟨gx0, 0, none⟩) n0 n0, .int .i64 b0.rate] 32)) w' ∧ w'.cell? ⟨w6.heap.size, 0, none⟩ = some (.int .i64 b0.first) ∧ w'.cell? ⟨w6.heap.size, 1, none⟩ = some (.slice (some ⟨gx0, 0, none⟩) n0 n0) ∧ w'.cell? ⟨w6.heap.size, 2, none⟩ = some (.int .i64 b0.rate) ∧ w'.cell? ⟨w.heap.size + 1, 0, none⟩ = some (.int .i64 r1.rate) ∧ w'.cell? ⟨w.heap.size + 1, 1, none⟩ = some (.int .i64 r1.death)) (first | exact HS.out _ (HP.out _ hcc8 _) | exact HS.out _ hcc8 | exact HS.out _ (HP.out _ hcc7 _) | exact HS.out _ hcc7 | exact HS.out _ (Below.setCell (Below.setCell (Below.setCell hcc8 (Nat.le_refl _) _) (Nat.le_refl _) _) (Nat.le_refl _) _) | exact HS.out _ (Below.setCell (Below.setCell (Below.setCell hcc8 HWZ.out _) HWZ.out _) HWZ.out _) | exact HS.out _ (Below.setCell (Below.setCell (Below.setCell hcc8 hcc7.size _) hcc7.size _) hcc7.size _) | exact HS.out _ (Below.setCell (Below.setCell (Below.setCell hcc8 hcc8.size _) hcc8.size _) hcc8.size _) | exact HS.out _ (HP.out _ HDR.out _) | exact HS.out _ HDR.out) (first | (go_at_call 15; refine (toScenario_any r1 _).mono ?_; rintro e w7 ⟨rfl, hb7⟩; have hcc7 : Below (w6.alloc (.cells #[.int .i64 b0.first, .slice (some ⟨gx0, 0, none⟩) n0 n0, .int .i64 b0.rate] 32)).heap.size (w6.alloc (.cells #[.int .i64 b0.first, .slice (some ⟨gx0, 0, none⟩) n0 n0, .int .i64 b0.rate] 32)) w7 := (by first | exact HDR.out.trans (hb7.mono HDR.out.size) | exact (HP.out _ HDR.out _).trans (hb7.mono (HP.out _ HDR.out _).size)); (first | (have HZ7 := Lib.hid (Blk.below' (Blk.new (w6.alloc (.cells #[.int .i64 b0.first, .slice (some ⟨gx0, 0, none⟩) n0 n0, .int .i64 b0.rate] 32)) 32 #[.int .i64 0, .slice none 0 0, .int .i64 0]).drew hb7); (try simp only [World.size_alloc] at HZ7)) | skip)) | (go_at_call 16; refine (impl_ChangeBasis_any b0 (some ⟨gx0, 0, none⟩) n0 n0 r1 _ (HFN0.out _ (by first | exact hcc7 | exact HP.out _ hcc7 _)) HF1.out).mono ?_; rintro e w8 ⟨AG0, nG0, cG0, rfl, hHRG0, hb8⟩; have hcc8 : Below (w6.alloc (.cells #[.int .i64 b0.first, .slice (some ⟨gx0, 0, none⟩) n0 n0, .int .i64 b0.rate] 32)).heap.size (w6.alloc (.cells #[.int .i64 b0.first, .slice (some ⟨gx0, 0, none⟩) n0 n0, .int .i64 b0.rate] 32)) w8 := (by first | exact hcc7.trans (hb8.mono hcc7.size) | exact (HP.out _ hcc7 _).trans (hb8.mono (HP.out _ hcc7 _).size)); have hx8 : Below w7.heap.size w7 w8 := (by first | exact hb8 | exact below_step ((Below.refl _ _).alloc (Nat.le_refl _) _) hb8); (first | (have HZ8 := Lib.hid (HZ7.out.below' hx8)) | (have HZ8 := Lib.hid (Blk.below' (Blk.new w7 32 #[.int .i64 0, .slice none 0 0, .int .i64 0]) hb8)) | skip); have HRG0 := Lib.hid hHRG0; clear hHRG0; (first | (have zc0 := (HZ8.out.cell 0).trans (show _ = some (Value.int .i64 0) from rfl); have zf0 := HZ8.out.frozen 0; have zc1 := (HZ8.out.cell 1).trans (show _ = some (Value.slice none 0 0) from rfl); have zf1 := HZ8.out.frozen 1; have zc2 := (HZ8.out.cell 2).trans (show _ = some (Value.int .i64 0) from rfl); have zf2 := HZ8.out.frozen 2) | skip)))
    all_goals (rename Below (w6.alloc (.cells #[.int .i64 b0.first, .slice (some ⟨gx0, 0, none⟩) n0 n0, .int .i64 b0.rate] 32)).heap.size (w6.alloc (.cells #[.int .i64 b0.first, .slice (some ⟨gx0, 0, none⟩) n0 n0, .int .i64 b0.rate] 32)) _ ∧ _ => hE; clear hE)
    all_goals go_wp2_with fail
    all_goals go_meet
    all_goals case rel =>
      refine ⟨_, AG0, nG0, cG0, rfl, rfl, Lib.hid ?_, Lib.hid ?_, Lib.hid ?_, Lib.hid ⟨?_, ?_⟩, Lib.hid ?_⟩
      · first | (have h9 := ((HZ8.out.set_ 0 (.int .i64 (chgBP b0 r1).1.first)).set_ 1 (.slice AG0 nG0 cG0)).set_ 2 (.int .i64 (chgBP b0 r1).1.rate); simpa using h9) | exact Blk.new _ _ _
      · have h4 : (w6.alloc (.cells #[.int .i64 b0.first, .slice (some ⟨gx0, 0, none⟩) n0 n0, .int .i64 b0.rate] 32)).heap.size ≤ w7.heap.size := hcc7.size
        have hM : Res ((w6.alloc (.cells #[.int .i64 b0.first, .slice (some ⟨gx0, 0, none⟩) n0 n0, .int .i64 b0.rate] 32)).heap.size) w8 2 1 AG0 nG0 cG0 (intRows ((chgBP b0 r1).1.lives)) := by first | exact HRG0.out.more h4 | exact HRG0.out.more (Nat.le_trans h4 (by simp))
        first | (have h8 := HZ8.out.lt; refine hM.keep fun q hq => ?_; have h7 := HRG0.out.lt hq; (try simp only [World.size_alloc] at h7); (try have h5 := HZ7.out.lt); exact ((Below.heap_setCell _ _ _ _ (by intro h9; dsimp only at h9; omega)).trans (Below.heap_setCell _ _ _ _ (by intro h9; dsimp only at h9; omega))).trans (Below.heap_setCell _ _ _ _ (by intro h9; dsimp only at h9; omega))) | exact hM.past ((Below.refl _ _).alloc (Nat.le_refl _) _)
      · first | (have h8 := HZ8.out; exact Below.setCell (Below.setCell (Below.setCell hcc8 (Nat.le_refl _) _) (Nat.le_refl _) _) (Nat.le_refl _) _) | (have h8 := HZ8.out; exact Below.setCell (Below.setCell (Below.setCell hcc8 HWZ.out _) HWZ.out _) HWZ.out _) | (have h8 := HZ8.out; exact Below.setCell (Below.setCell (Below.setCell hcc8 hcc7.size _) hcc7.size _) hcc7.size _) | (have h8 := HZ8.out; exact Below.setCell (Below.setCell (Below.setCell hcc8 hcc8.size _) hcc8.size _) hcc8.size _) | exact HP.out _ hcc8 _
      · first | exact (Nat.le_refl _) | exact HWZ.out | exact hcc7.size | exact hcc8.size
      · first | (simp; done) | (have h8 := HZ8.out.lt; simpa using h8)
      · intro q hq; have h7 := HRG0.out.lt hq; (try simp only [World.size_alloc] at h7); (try have h8 := HZ7.out.lt); omega
  obtain ⟨gBG0, AG0, nG0, cG0, rfl, rfl, HYG0, HRG0, hBW, hgb, HNEG0⟩ := hcut
  obtain ⟨w9, hwK⟩ : ∃ x, x = wc := ⟨wc, rfl⟩
  subst hwK
  have hgb1G0 : w6.heap.size + 1 ≤ gBG0 := by have h9 := hgb.out.1; simpa using h9
  have hgb2G0 := hgb.out.2
  have BK9 := BK6.trans (hBW.out.mono BK6.size)
  have hz9 : w6.heap.size + 1 ≤ w9.heap.size := by have h9 := hBW.out.size; simpa using h9
  replace HA0 := Lib.hid (HA0.out.below' hBW.out)
  replace HA1 := Lib.hid (HA1.out.below' hBW.out)
  replace HRW0 := Lib.hid (HRW0.out.past hBW.out)
  replace HYW0 := Lib.hid (HYW0.out.below' hBW.out)
  replace HRx0 := Lib.hid (HRx0.out.past hBW.out)
  replace HYx0 := Lib.hid (HYx0.out.below' hBW.out)
  clear hBW hgb HS HP HDR BKr
  have hwG0 := Lib.hid (fun g (hg : AG0 = some ⟨g, 0, none⟩) => show w6.heap.size + 1 ≤ g ∧ g < w9.heap.size by have h9 := HRG0.out.lt hg; simpa using h9)
  have hmG0 : nG0 ≤ 1048576 := by have h1 := HRG0.out.len; rw [intRows_length] at h1; have := chgB_small b0 r1; omega
  obtain rfl : nW0 = nG0 := by have h1 := HRG0.out.len; have h2 := HRW0.out.len; omega
  have hcHYG0 := Lib.hid (Blk.agg (cs := [.int .i64 (chgBP b0 r1).1.first, .slice AG0 nW0 cG0, .int .i64 (chgBP b0 r1).1.rate]) HYG0.out 0 [.int .i64 (chgBP b0 r1).1.first, .slice AG0 nW0 cG0, .int .i64 (chgBP b0 r1).1.rate] rfl)
  have hcHYW0 := Lib.hid (Blk.agg (cs := [.int .i64 (chgBP b0 r1).1.first, .slice AW0 nW0 cW0, .int .i64 (chgBP b0 r1).1.rate]) HYW0.out 0 [.int .i64 (chgBP b0 r1).1.first, .slice AW0 nW0 cW0, .int .i64 (chgBP b0 r1).1.rate] rfl)
  go_wp2_with (first | (refine wpList_load_agg rfl 32 _ rfl ⟨gBG0, 0, none⟩ rfl [.int .i64 (chgBP b0 r1).1.first, .slice AG0 nW0 cG0, .int .i64 (chgBP b0 r1).1.rate] hcHYG0.out _ Try.underlying32 rfl Bas.size ?_) | (refine wpList_load_agg rfl 32 _ rfl ⟨gBW0, 0, none⟩ rfl [.int .i64 (chgBP b0 r1).1.first, .slice AW0 nW0 cW0, .int .i64 (chgBP b0 r1).1.rate] hcHYW0.out _ Try.underlying32 rfl Bas.size ?_))
  refine (eqBasis_any (chgBP b0 r1).1 AG0 AW0 nW0 cG0 cW0 _ (by omega) (basT_res HRG0.out (chgB_fits b0 r1)) (basT_res HRW0.out (chgB_fits b0 r1))).mono ?_
  rintro e w10 ⟨rfl, hb10⟩
  clear hcHYG0
  clear hcHYW0
  have BK10 := BK9.trans (hb10.mono BK9.size)
  have hz10 : w9.heap.size ≤ w10.heap.size := hb10.size
  replace HA0 := Lib.hid (HA0.out.below' hb10)
  replace HA1 := Lib.hid (HA1.out.below' hb10)
  replace HRW0 := Lib.hid (HRW0.out.past hb10)
  replace HYW0 := Lib.hid (HYW0.out.below' hb10)
  replace HRx0 := Lib.hid (HRx0.out.past hb10)
  replace HYx0 := Lib.hid (HYx0.out.below' hb10)
  replace HRG0 := Lib.hid (HRG0.out.past hb10)
  replace HYG0 := Lib.hid (HYG0.out.below' hb10)
  clear hb10
  have HS := Lib.hid (show ∀ w', Below w10.heap.size w10 w' → Below w10.heap.size w10 w' ∧ w'.cell? ⟨w6.heap.size, 0, none⟩ = some (.int .i64 b0.first) ∧ w'.cell? ⟨w6.heap.size, 1, none⟩ = some (.slice (some ⟨gx0, 0, none⟩) n0 n0) ∧ w'.cell? ⟨w6.heap.size, 2, none⟩ = some (.int .i64 b0.rate) ∧ w'.cell? ⟨w.heap.size, 0, none⟩ = some (.int .i64 b0.first) ∧ w'.cell? ⟨w.heap.size, 1, none⟩ = some (.slice A0 n0 c0) ∧ w'.cell? ⟨w.heap.size, 2, none⟩ = some (.int .i64 b0.rate) from fun w' q => by
    have hx0 := HYx0.out.below' q
    have hx1 := HA0.out.below' q
    exact ⟨q, (hx0.cell 0), (hx0.cell 1), (hx0.cell 2), (hx1.cell 0), (hx1.cell 1), (hx1.cell 2)⟩)
  have BKr := BK10
  go_wp2
  go_region_held3 (fun w' => Below w10.heap.size w10 w' ∧ w'.cell? ⟨w6.heap.size, 0, none⟩ = some (.int .i64 b0.first) ∧ w'.cell? ⟨w6.heap.size, 1, none⟩ = some (.slice (some ⟨gx0, 0, none⟩) n0 n0) ∧ w'.cell? ⟨w6.heap.size, 2, none⟩ = some (.int .i64 b0.rate) ∧ w'.cell? ⟨w.heap.size, 0, none⟩ = some (.int .i64 b0.first) ∧ w'.cell? ⟨w.heap.size, 1, none⟩ = some (.slice A0 n0 c0) ∧ w'.cell? ⟨w.heap.size, 2, none⟩ = some (.int .i64 b0.rate)) (first | exact HS.out _ (Below.drew (Below.refl _ _)) | exact HS.out _ hcc12 | exact HS.out _ hcc11 | exact HS.out _ (Below.alloc hcc12 (by first | exact hcc12.size | exact Nat.le_trans (by simp) hcc12.size) _) ) (first | (go_at_call 14; rename Below w10.heap.size w10 _ ∧ _ => hH; have hc0 := hH.1; refine (toBasis_any b0 A0 n0 c0 _ (HLT0.out.past (BKr.trans (hc0.mono BKr.size)))).mono ?_; rintro e w11 ⟨gy0, rfl, hHRy0, hb11⟩; have hcc11 := hc0.trans (hb11.mono hc0.size); have BK11 := BKr.trans (hcc11.mono BKr.size); have hz11 : w10.heap.size ≤ w11.heap.size := hcc11.size; have HRy0 := Lib.hid hHRy0; clear hHRy0; have hwy0 := Lib.hid (fun g (hg : some (⟨gy0, 0, none⟩ : Addr) = some ⟨g, 0, none⟩) => HRy0.out.lt hg)) | (go_at_call 17; refine (eqBasis_any b0 (some ⟨gx0, 0, none⟩) (some ⟨gy0, 0, none⟩) n0 n0 n0 _ (by omega) (basT_of (HRx0.out.past hcc11) HT0.out) (basT_of HRy0.out HT0.out)).mono ?_; rintro e w12 ⟨rfl, hb12⟩; have hcc12 := hcc11.trans (hb12.mono hcc11.size); have BK12 := BKr.trans (hcc12.mono BKr.size); have hz12 : w11.heap.size ≤ w12.heap.size := hb12.size; have HRy0' := Lib.hid (HRy0.out.past hb12); clear HRy0; have HRy0 := HRy0'; clear HRy0'))
  all_goals clear HS
  replace HA0 := Lib.hid (HA0.out.below' hcc12)
  replace HA1 := Lib.hid (HA1.out.below' hcc12)
  replace HRW0 := Lib.hid (HRW0.out.past hcc12)
  replace HYW0 := Lib.hid (HYW0.out.below' hcc12)
  replace HRx0 := Lib.hid (HRx0.out.past hcc12)
  replace HYx0 := Lib.hid (HYx0.out.below' hcc12)
  replace HRG0 := Lib.hid (HRG0.out.past hcc12)
  replace HYG0 := Lib.hid (HYG0.out.below' hcc12)
  have hcHYx0 := Lib.hid (Blk.agg (cs := [.int .i64 b0.first, .slice (some ⟨gx0, 0, none⟩) n0 n0, .int .i64 b0.rate]) HYx0.out 0 [.int .i64 b0.first, .slice (some ⟨gx0, 0, none⟩) n0 n0, .int .i64 b0.rate] rfl)
  go_wp2_with (first | (refine wpList_load_agg rfl 32 _ rfl ⟨w6.heap.size, 0, none⟩ rfl [.int .i64 b0.first, .slice (some ⟨gx0, 0, none⟩) n0 n0, .int .i64 b0.rate] hcHYx0.out _ Try.underlying32 rfl Bas.size ?_))
  refine (markBasis_at _ b0.first b0.rate (some ⟨gx0, 0, none⟩) n0 n0 (1) _ _ _ hs0' (by omega) HRx0.out (by omega)).mono ?_
  rintro e w13 ⟨rfl, ⟨u13, hu13, ht13⟩, _⟩
  clear hcHYx0
  have hzu13 : w12.heap.size ≤ u13.heap.size := hu13.size
  have BKu13 := BK12.trans (hu13.mono BK12.size)
  replace HA0 := Lib.hid (HA0.out.below' hu13)
  replace HA1 := Lib.hid (HA1.out.below' hu13)
  replace HRW0 := Lib.hid (HRW0.out.past hu13)
  replace HYW0 := Lib.hid (HYW0.out.below' hu13)
  replace HRx0 := Lib.hid (HRx0.out.past hu13)
  replace HYx0 := Lib.hid (HYx0.out.below' hu13)
  replace HRG0 := Lib.hid (HRG0.out.past hu13)
  replace HYG0 := Lib.hid (HYG0.out.below' hu13)
  have BK13 := BKu13.trans (ht13.below BKu13.size (fun g hg => by have := hwx0.out g hg; omega))
  have hz13 : u13.heap.size ≤ w13.heap.size := ht13.size
  replace HA0 := Lib.hid (ht13.blk HA0.out (fun g hg => by have := hwx0.out g hg; omega))
  replace HA1 := Lib.hid (ht13.blk HA1.out (fun g hg => by have := hwx0.out g hg; omega))
  replace HRW0 := Lib.hid (ht13.res HRW0.out (fun g hg hg' => by have := hwx0.out g hg; have := hwW0.out g hg'; omega))
  replace HYW0 := Lib.hid (ht13.blk HYW0.out (fun g hg => by have := hwx0.out g hg; omega))
  replace HYx0 := Lib.hid (ht13.blk HYx0.out (fun g hg => by have := hwx0.out g hg; omega))
  replace HRG0 := Lib.hid (ht13.res HRG0.out (fun g hg hg' => by have := hwx0.out g hg; have := hwG0.out g hg'; omega))
  replace HYG0 := Lib.hid (ht13.blk HYG0.out (fun g hg => by have := hwx0.out g hg; omega))
  clear ht13
  have q1 : w13.cell? ⟨gBG0, 0, none⟩ = some (.int .i64 (chgBP b0 r1).1.first) := HYG0.out.cell 0
  have q2 : w13.cell? ⟨gBG0, 1, none⟩ = some (.slice AG0 nW0 cG0) := HYG0.out.cell 1
  have q3 : w13.cell? ⟨gBG0, 2, none⟩ = some (.int .i64 (chgBP b0 r1).1.rate) := HYG0.out.cell 2
  have q4 : w13.cell? ⟨gBW0, 0, none⟩ = some (.int .i64 (chgBP b0 r1).1.first) := HYW0.out.cell 0
  have q5 : w13.cell? ⟨gBW0, 1, none⟩ = some (.slice AW0 nW0 cW0) := HYW0.out.cell 1
  have q6 : w13.cell? ⟨gBW0, 2, none⟩ = some (.int .i64 (chgBP b0 r1).1.rate) := HYW0.out.cell 2
  go_wp2_with fail
  refine (eqBasis_any (chgBP b0 r1).1 AG0 AW0 nW0 cG0 cW0 _ (by omega) (basT_res HRG0.out (chgB_fits b0 r1)) (basT_res HRW0.out (chgB_fits b0 r1))).mono ?_
  rintro e w14 ⟨rfl, hb14⟩
  clear q1 q2 q3 q4 q5 q6
  have BK14 := BK13.trans (hb14.mono BK13.size)
  have hz14 : w13.heap.size ≤ w14.heap.size := hb14.size
  replace HA0 := Lib.hid (HA0.out.below' hb14)
  replace HA1 := Lib.hid (HA1.out.below' hb14)
  replace HRW0 := Lib.hid (HRW0.out.past hb14)
  replace HYW0 := Lib.hid (HYW0.out.below' hb14)
  replace HYx0 := Lib.hid (HYx0.out.below' hb14)
  replace HRG0 := Lib.hid (HRG0.out.past hb14)
  replace HYG0 := Lib.hid (HYG0.out.below' hb14)
  clear hb14
  have hcHYG0 := Lib.hid (Blk.agg (cs := [.int .i64 (chgBP b0 r1).1.first, .slice AG0 nW0 cG0, .int .i64 (chgBP b0 r1).1.rate]) HYG0.out 0 [.int .i64 (chgBP b0 r1).1.first, .slice AG0 nW0 cG0, .int .i64 (chgBP b0 r1).1.rate] rfl)
  go_wp2_with (first | (refine wpList_load_agg rfl 32 _ rfl ⟨gBG0, 0, none⟩ rfl [.int .i64 (chgBP b0 r1).1.first, .slice AG0 nW0 cG0, .int .i64 (chgBP b0 r1).1.rate] hcHYG0.out _ Try.underlying32 rfl Bas.size ?_))
  refine (markBasis_at _ (chgBP b0 r1).1.first (chgBP b0 r1).1.rate AG0 nW0 cG0 1 _ _ _ (by omega) (by omega) HRG0.out (by omega)).mono ?_
  rintro e w15 ⟨rfl, ⟨u15, hu15, ht15⟩, hHM0⟩
  clear hcHYG0
  have hzu15 : w14.heap.size ≤ u15.heap.size := hu15.size
  have BKu15 := BK14.trans (hu15.mono BK14.size)
  replace HA0 := Lib.hid (HA0.out.below' hu15)
  replace HA1 := Lib.hid (HA1.out.below' hu15)
  replace HRW0 := Lib.hid (HRW0.out.past hu15)
  replace HYW0 := Lib.hid (HYW0.out.below' hu15)
  replace HYx0 := Lib.hid (HYx0.out.below' hu15)
  replace HRG0 := Lib.hid (HRG0.out.past hu15)
  replace HYG0 := Lib.hid (HYG0.out.below' hu15)
  have BK15 := BKu15.trans (ht15.below BKu15.size (fun g hg => by have := hwG0.out g hg; omega))
  have hz15 : u15.heap.size ≤ w15.heap.size := ht15.size
  replace HA0 := Lib.hid (ht15.blk HA0.out (fun g hg => by have := hwG0.out g hg; first | omega | exact HNEG0.out g hg))
  replace HA1 := Lib.hid (ht15.blk HA1.out (fun g hg => by have := hwG0.out g hg; first | omega | exact HNEG0.out g hg))
  replace HRW0 := Lib.hid (ht15.res HRW0.out (fun g hg hg' => by have := hwG0.out g hg; have := hwW0.out g hg'; omega))
  replace HYW0 := Lib.hid (ht15.blk HYW0.out (fun g hg => by have := hwG0.out g hg; first | omega | exact HNEG0.out g hg))
  replace HYx0 := Lib.hid (ht15.blk HYx0.out (fun g hg => by have := hwG0.out g hg; first | omega | exact HNEG0.out g hg))
  replace HYG0 := Lib.hid (ht15.blk HYG0.out (fun g hg => by have := hwG0.out g hg; first | omega | exact HNEG0.out g hg))
  clear ht15
  have HM0 := Lib.hid hHM0; clear hHM0
  have hcHYG0 := Lib.hid (Blk.agg (cs := [.int .i64 (chgBP b0 r1).1.first, .slice AG0 nW0 cG0, .int .i64 (chgBP b0 r1).1.rate]) HYG0.out 0 [.int .i64 (chgBP b0 r1).1.first, .slice AG0 nW0 cG0, .int .i64 (chgBP b0 r1).1.rate] rfl)
  go_wp2_with (first | (refine wpList_load_agg rfl 32 _ rfl ⟨gBG0, 0, none⟩ rfl [.int .i64 (chgBP b0 r1).1.first, .slice AG0 nW0 cG0, .int .i64 (chgBP b0 r1).1.rate] hcHYG0.out _ Try.underlying32 rfl Bas.size ?_))
  refine (heldBasis_at (chgBP b0 r1).1.first (chgBP b0 r1).1.rate AG0 nW0 cG0 1 _ _ (by omega) (by omega) HM0.out (by omega)).mono ?_
  rintro e w16 ⟨rfl, hb16⟩
  clear hcHYG0
  have BK16 := BK15.trans (hb16.mono BK15.size)
  have hz16 : w15.heap.size ≤ w16.heap.size := hb16.size
  replace HA0 := Lib.hid (HA0.out.below' hb16)
  replace HA1 := Lib.hid (HA1.out.below' hb16)
  replace HRW0 := Lib.hid (HRW0.out.past hb16)
  replace HYW0 := Lib.hid (HYW0.out.below' hb16)
  replace HYx0 := Lib.hid (HYx0.out.below' hb16)
  replace HYG0 := Lib.hid (HYG0.out.below' hb16)
  replace HM0 := Lib.hid (HM0.out.past hb16)
  clear hb16
  have HS := Lib.hid (show ∀ w', Below w16.heap.size w16 w' → Below w16.heap.size w16 w' ∧ w'.cell? ⟨w.heap.size, 0, none⟩ = some (.int .i64 b0.first) ∧ w'.cell? ⟨w.heap.size, 1, none⟩ = some (.slice A0 n0 c0) ∧ w'.cell? ⟨w.heap.size, 2, none⟩ = some (.int .i64 b0.rate) ∧ w'.cell? ⟨w.heap.size + 1, 0, none⟩ = some (.int .i64 r1.rate) ∧ w'.cell? ⟨w.heap.size + 1, 1, none⟩ = some (.int .i64 r1.death) from fun w' q => by
    have hx0 := HA0.out.below' q
    have hx1 := HA1.out.below' q
    exact ⟨q, (hx0.cell 0), (hx0.cell 1), (hx0.cell 2), (hx1.cell 0), (hx1.cell 1)⟩)
  have HP := Lib.hid (fun w' (q : Below w16.heap.size w16 w') (o : Obj) => q.alloc q.size o)
  have HDR := Lib.hid ((Below.refl w16.heap.size w16).drew)
  have BKr := BK16
  go_wp2
  go_cut [14, 15] (fun s t wx => ∃ (g : Nat) (A : Option Addr) (n c : Nat), s = .pointer (some ⟨g, 0, none⟩) ∧ t = .int .i64 (chgBP b0 r1).2 ∧ Hid (Blk wx g 32 #[.int .i64 (chgBP b0 r1).1.first, .slice A n c, .int .i64 (chgBP b0 r1).1.rate]) ∧ Hid (Res w16.heap.size wx 2 1 A n c (intRows ((chgBP b0 r1).1.lives))) ∧ Hid (Below w16.heap.size w16 wx) ∧ Hid (w16.heap.size ≤ g ∧ g < wx.heap.size) ∧ Hid (∀ g', A = some ⟨g', 0, none⟩ → g ≠ g'))
  case first =>
    go_region_held3 (fun w' => Below w16.heap.size w16 w' ∧ w'.cell? ⟨w.heap.size, 0, none⟩ = some (.int .i64 b0.first) ∧ w'.cell? ⟨w.heap.size, 1, none⟩ = some (.slice A0 n0 c0) ∧ w'.cell? ⟨w.heap.size, 2, none⟩ = some (.int .i64 b0.rate) ∧ w'.cell? ⟨w.heap.size + 1, 0, none⟩ = some (.int .i64 r1.rate) ∧ w'.cell? ⟨w.heap.size + 1, 1, none⟩ = some (.int .i64 r1.death)) (first | exact HS.out _ (HP.out _ hcc19 _) | exact HS.out _ hcc19 | exact HS.out _ (HP.out _ hcc18 _) | exact HS.out _ hcc18 | exact HS.out _ (HP.out _ hcc17 _) | exact HS.out _ hcc17 | exact HS.out _ (Below.setCell (Below.setCell (Below.setCell hcc19 (Nat.le_refl _) _) (Nat.le_refl _) _) (Nat.le_refl _) _) | exact HS.out _ (Below.setCell (Below.setCell (Below.setCell hcc19 hcc17.size _) hcc17.size _) hcc17.size _) | exact HS.out _ (Below.setCell (Below.setCell (Below.setCell hcc19 hcc18.size _) hcc18.size _) hcc18.size _) | exact HS.out _ (Below.setCell (Below.setCell (Below.setCell hcc19 hcc19.size _) hcc19.size _) hcc19.size _) | exact HS.out _ (HP.out _ HDR.out _) | exact HS.out _ HDR.out) (first | (go_at_call 14; refine (toBasis_any b0 A0 n0 c0 _ (by first | exact HLT0.out.past (BKr.trans (HDR.out.mono BKr.size)) | exact HLT0.out.past (BKr.trans ((HP.out _ HDR.out _).mono BKr.size)))).mono ?_; rintro e w17 ⟨gh0, rfl, hHRh0, hb17⟩; have hcc17 : Below w16.heap.size w16 w17 := (by first | exact HDR.out.trans (hb17.mono HDR.out.size) | exact (HP.out _ HDR.out _).trans (hb17.mono (HP.out _ HDR.out _).size)); (first | (have HZ17 := Lib.hid (Blk.below' (Blk.new w16 32 #[.int .i64 0, .slice none 0 0, .int .i64 0]).drew hb17); (try simp only [World.size_alloc] at HZ17)) | skip); have HRh0 := Lib.hid hHRh0; clear hHRh0) | (go_at_call 15; refine (toScenario_any r1 _).mono ?_; rintro e w18 ⟨rfl, hb18⟩; have hcc18 : Below w16.heap.size w16 w18 := (by first | exact hcc17.trans (hb18.mono hcc17.size) | exact (HP.out _ hcc17 _).trans (hb18.mono (HP.out _ hcc17 _).size)); have hx18 : Below w17.heap.size w17 w18 := (by first | exact hb18 | exact below_step ((Below.refl _ _).alloc (Nat.le_refl _) _) hb18); (first | (have HZ18 := Lib.hid (HZ17.out.below' hx18)) | (have HZ18 := Lib.hid (Blk.below' (Blk.new w17 32 #[.int .i64 0, .slice none 0 0, .int .i64 0]) hb18)) | skip); have HRh0_18 := Lib.hid (HRh0.out.past hx18); have HFN0 := Lib.hid (fun X (q : Below w18.heap.size w18 X) => (show BasT X (some ⟨gh0, 0, none⟩) n0 n0 b0 from basT_of (HRh0_18.out.past q) HT0.out))) | (go_at_call 16; refine (impl_ChangeBasis_any b0 (some ⟨gh0, 0, none⟩) n0 n0 r1 _ (HFN0.out _ (by first | exact Below.refl _ _ | exact (Below.refl _ _).alloc (Nat.le_refl _) _)) HF1.out).mono ?_; rintro e w19 ⟨AH0, nH0, cH0, rfl, hHRH0, hb19⟩; have hcc19 : Below w16.heap.size w16 w19 := (by first | exact hcc18.trans (hb19.mono hcc18.size) | exact (HP.out _ hcc18 _).trans (hb19.mono (HP.out _ hcc18 _).size)); have hx19 : Below w18.heap.size w18 w19 := (by first | exact hb19 | exact below_step ((Below.refl _ _).alloc (Nat.le_refl _) _) hb19); (first | (have HZ19 := Lib.hid (HZ18.out.below' hx19)) | (have HZ19 := Lib.hid (Blk.below' (Blk.new w18 32 #[.int .i64 0, .slice none 0 0, .int .i64 0]) hb19)) | skip); have HRh0_19 := Lib.hid (HRh0_18.out.past hx19); have HRH0 := Lib.hid hHRH0; clear hHRH0; (first | (have zc0 := (HZ19.out.cell 0).trans (show _ = some (Value.int .i64 0) from rfl); have zf0 := HZ19.out.frozen 0; have zc1 := (HZ19.out.cell 1).trans (show _ = some (Value.slice none 0 0) from rfl); have zf1 := HZ19.out.frozen 1; have zc2 := (HZ19.out.cell 2).trans (show _ = some (Value.int .i64 0) from rfl); have zf2 := HZ19.out.frozen 2) | skip)))
    all_goals (rename Below w16.heap.size w16 _ ∧ _ => hE; clear hE)
    all_goals go_wp2_with fail
    all_goals go_meet
    all_goals case rel =>
      refine ⟨_, AH0, nH0, cH0, rfl, rfl, Lib.hid ?_, Lib.hid ?_, Lib.hid ?_, Lib.hid ⟨?_, ?_⟩, Lib.hid ?_⟩
      · first | (have h9 := ((HZ19.out.set_ 0 (.int .i64 (chgBP b0 r1).1.first)).set_ 1 (.slice AH0 nH0 cH0)).set_ 2 (.int .i64 (chgBP b0 r1).1.rate); simpa using h9) | exact Blk.new _ _ _
      · have h4 : w16.heap.size ≤ w18.heap.size := hcc18.size
        have hM : Res (w16.heap.size) w19 2 1 AH0 nH0 cH0 (intRows ((chgBP b0 r1).1.lives)) := by first | exact HRH0.out.more h4 | exact HRH0.out.more (Nat.le_trans h4 (by simp))
        first | (have h8 := HZ19.out.lt; refine hM.keep fun q hq => ?_; have h7 := HRH0.out.lt hq; (try simp only [World.size_alloc] at h7); (try have h5 := HZ18.out.lt); exact ((Below.heap_setCell _ _ _ _ (by intro h9; dsimp only at h9; omega)).trans (Below.heap_setCell _ _ _ _ (by intro h9; dsimp only at h9; omega))).trans (Below.heap_setCell _ _ _ _ (by intro h9; dsimp only at h9; omega))) | exact hM.past ((Below.refl _ _).alloc (Nat.le_refl _) _)
      · first | (have h8 := HZ19.out; exact Below.setCell (Below.setCell (Below.setCell hcc19 (Nat.le_refl _) _) (Nat.le_refl _) _) (Nat.le_refl _) _) | (have h8 := HZ19.out; exact Below.setCell (Below.setCell (Below.setCell hcc19 hcc17.size _) hcc17.size _) hcc17.size _) | (have h8 := HZ19.out; exact Below.setCell (Below.setCell (Below.setCell hcc19 hcc18.size _) hcc18.size _) hcc18.size _) | (have h8 := HZ19.out; exact Below.setCell (Below.setCell (Below.setCell hcc19 hcc19.size _) hcc19.size _) hcc19.size _) | exact HP.out _ hcc19 _
      · first | exact (Nat.le_refl _) | exact hcc17.size | exact hcc18.size | exact hcc19.size
      · first | (simp; done) | (have h8 := HZ19.out.lt; simpa using h8)
      · intro q hq; have h7 := HRH0.out.lt hq; (try simp only [World.size_alloc] at h7); (try have h8 := HZ18.out.lt); omega
  obtain ⟨gBH0, AH0, nH0, cH0, rfl, rfl, HYH0, HRH0, hBW, hgb, HNEH0⟩ := hcut
  obtain ⟨w20, hwK⟩ : ∃ x, x = wc := ⟨wc, rfl⟩
  subst hwK
  have hgb1H0 : w16.heap.size ≤ gBH0 := by have h9 := hgb.out.1; simpa using h9
  have hgb2H0 := hgb.out.2
  have BK20 := BK16.trans (hBW.out.mono BK16.size)
  have hz20 : w16.heap.size ≤ w20.heap.size := by have h9 := hBW.out.size; simpa using h9
  replace HA0 := Lib.hid (HA0.out.below' hBW.out)
  replace HA1 := Lib.hid (HA1.out.below' hBW.out)
  replace HRW0 := Lib.hid (HRW0.out.past hBW.out)
  replace HYW0 := Lib.hid (HYW0.out.below' hBW.out)
  replace HYx0 := Lib.hid (HYx0.out.below' hBW.out)
  replace HYG0 := Lib.hid (HYG0.out.below' hBW.out)
  replace HM0 := Lib.hid (HM0.out.past hBW.out)
  clear hBW hgb HS HP HDR BKr
  have hwH0 := Lib.hid (fun g (hg : AH0 = some ⟨g, 0, none⟩) => show w16.heap.size ≤ g ∧ g < w20.heap.size by have h9 := HRH0.out.lt hg; simpa using h9)
  have hmH0 : nH0 ≤ 1048576 := by have h1 := HRH0.out.len; rw [intRows_length] at h1; have := chgB_small b0 r1; omega
  obtain rfl : nW0 = nH0 := by have h1 := HRH0.out.len; have h2 := HRW0.out.len; omega
  have hcHYH0 := Lib.hid (Blk.agg (cs := [.int .i64 (chgBP b0 r1).1.first, .slice AH0 nW0 cH0, .int .i64 (chgBP b0 r1).1.rate]) HYH0.out 0 [.int .i64 (chgBP b0 r1).1.first, .slice AH0 nW0 cH0, .int .i64 (chgBP b0 r1).1.rate] rfl)
  have hcHYW0 := Lib.hid (Blk.agg (cs := [.int .i64 (chgBP b0 r1).1.first, .slice AW0 nW0 cW0, .int .i64 (chgBP b0 r1).1.rate]) HYW0.out 0 [.int .i64 (chgBP b0 r1).1.first, .slice AW0 nW0 cW0, .int .i64 (chgBP b0 r1).1.rate] rfl)
  go_wp2_with (first | (refine wpList_load_agg rfl 32 _ rfl ⟨gBH0, 0, none⟩ rfl [.int .i64 (chgBP b0 r1).1.first, .slice AH0 nW0 cH0, .int .i64 (chgBP b0 r1).1.rate] hcHYH0.out _ Try.underlying32 rfl Bas.size ?_) | (refine wpList_load_agg rfl 32 _ rfl ⟨gBW0, 0, none⟩ rfl [.int .i64 (chgBP b0 r1).1.first, .slice AW0 nW0 cW0, .int .i64 (chgBP b0 r1).1.rate] hcHYW0.out _ Try.underlying32 rfl Bas.size ?_))
  refine (eqBasis_any (chgBP b0 r1).1 AH0 AW0 nW0 cH0 cW0 _ (by omega) (basT_res HRH0.out (chgB_fits b0 r1)) (basT_res HRW0.out (chgB_fits b0 r1))).mono ?_
  rintro e w21 ⟨rfl, hb21⟩
  clear hcHYH0
  clear hcHYW0
  have BK21 := BK20.trans (hb21.mono BK20.size)
  have hz21 : w20.heap.size ≤ w21.heap.size := hb21.size
  replace HA0 := Lib.hid (HA0.out.below' hb21)
  replace HA1 := Lib.hid (HA1.out.below' hb21)
  replace HRW0 := Lib.hid (HRW0.out.past hb21)
  replace HYW0 := Lib.hid (HYW0.out.below' hb21)
  replace HYx0 := Lib.hid (HYx0.out.below' hb21)
  replace HYG0 := Lib.hid (HYG0.out.below' hb21)
  replace HM0 := Lib.hid (HM0.out.past hb21)
  replace HRH0 := Lib.hid (HRH0.out.past hb21)
  replace HYH0 := Lib.hid (HYH0.out.below' hb21)
  clear hb21
  have hcHYG0 := Lib.hid (Blk.agg (cs := [.int .i64 (chgBP b0 r1).1.first, .slice AG0 nW0 cG0, .int .i64 (chgBP b0 r1).1.rate]) HYG0.out 0 [.int .i64 (chgBP b0 r1).1.first, .slice AG0 nW0 cG0, .int .i64 (chgBP b0 r1).1.rate] rfl)
  go_wp2_with (first | (refine wpList_load_agg rfl 32 _ rfl ⟨gBG0, 0, none⟩ rfl [.int .i64 (chgBP b0 r1).1.first, .slice AG0 nW0 cG0, .int .i64 (chgBP b0 r1).1.rate] hcHYG0.out _ Try.underlying32 rfl Bas.size ?_))
  refine (heldBasis_at (chgBP b0 r1).1.first (chgBP b0 r1).1.rate AG0 nW0 cG0 1 _ _ (by omega) (by omega) HM0.out (by omega)).mono ?_
  rintro e w22 ⟨rfl, hb22⟩
  clear hcHYG0
  have BK22 := BK21.trans (hb22.mono BK21.size)
  have hz22 : w21.heap.size ≤ w22.heap.size := hb22.size
  replace HA0 := Lib.hid (HA0.out.below' hb22)
  replace HA1 := Lib.hid (HA1.out.below' hb22)
  replace HRW0 := Lib.hid (HRW0.out.past hb22)
  replace HYW0 := Lib.hid (HYW0.out.below' hb22)
  replace HYx0 := Lib.hid (HYx0.out.below' hb22)
  replace HYG0 := Lib.hid (HYG0.out.below' hb22)
  replace HM0 := Lib.hid (HM0.out.past hb22)
  replace HRH0 := Lib.hid (HRH0.out.past hb22)
  replace HYH0 := Lib.hid (HYH0.out.below' hb22)
  clear hb22
  go_wp2
  go_ret
  exact ⟨rfl, BK22⟩

set_option maxRecDepth 100000 in
theorem lifted (os : Os) (started : os.Started) (H : Type) (enc : TypeId × Value → H) :
    ReturnsInHanded {} Try.checked os 3 .any (Rows.fnExactChangeBasisSpec.pre6 enc Try.prog Try.f3 Rows.fnExactChangeBasisRow.domain false) (Rows.fnExactChangeBasisSpec.post enc Try.prog Try.f3 false true false false) := by
  refine law_lifted os started H enc 4 (by kernel_rfl) Try.func3
    (ChangeSpec.witness6 (enc := enc) (C := Try.checked) false ⟨#[], #[.agg #[.int .i64 0, .slice none 0 0, .int .i64 0], .agg #[.int .i64 0, .int .i64 0]], []⟩ 8 (by kernel_rfl) (by kernel_rfl) (by kernel_rfl) (by kernel_rfl)) rfl rfl Try.underlying4
    (by rw [Try.params3]; simp only [List.forall_mem_cons]; exact ⟨⟨by kernel_rfl, of_decide_eq_true (by kernel_rfl)⟩, ⟨by kernel_rfl, of_decide_eq_true (by kernel_rfl)⟩, by simp⟩) (fun ds hl => by
      match ds, hl with
      | [d0, d1], _ => rfl) ?_
  intro W base args ds p hval hA
  rw [Try.params3] at hA hval
  obtain ⟨v0, vs0, d0, ds0, p0, q0, hargs, rfl, rfl, h0, rr0⟩ := trodAll_cons hA
  obtain ⟨v1, vs1, d1, ds1, p1, q1, rfl, rfl, rfl, h1, rr1⟩ := trodAll_cons rr0
  obtain ⟨rfl, rfl, rfl⟩ := trodAll_nil rr1
  obtain rfl : args = #[v0, v1] := by cases args; simp_all
  obtain ⟨b0, A0, n0, c0, rfl, hn0, hl0, hX0, hf0, i0, j0⟩ := open_basis (hval 0 26 v0 rfl rfl) h0
  obtain ⟨zs1, rfl, hzl1, hzf1⟩ := open_aggs Try.underlying28 Scenario.intCells (hval 1 28 v1 rfl rfl) h1
  obtain ⟨r1, hr1, hrf1⟩ := Scenario.of_num hzl1 hzf1
  rw [hr1]
  exact walk b0 A0 n0 c0 r1 W hn0 hl0 hX0 hf0 i0 j0 hrf1
theorem proved : Rows.FnExactChangeBasisSaid :=
  OpenClaim.holds_of_wide 3 Try.f3 rfl rfl rfl rfl rfl rfl rfl ⟨rfl, rfl, rfl, rfl, rfl⟩ rfl rfl rfl rfl rfl (by kernel_rfl) Try.func3 (by kernel_rfl)
    (of_decide_eq_true (by kernel_rfl)) (by unfold Func.isWrapper; first | (rw [if_pos (by decide +kernel)]; kernel_rfl) | (rw [if_neg (by decide +kernel)]; exact ⟨rfl, rfl⟩))
    (fun os started H enc _ => lifted os started H enc)
end fnExactChangeBasis
end Go.Proofs.Ythcnkcoplgdlkaa
