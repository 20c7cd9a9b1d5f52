/- Life tables and bases in the laws: size, copy, equality. -/
import Derived.Test.YthcnkcoplgdlkaaStInt
import Derived.Test.YthcnkcoplgdlkaaPolS
import Derived.Test.YthcnkcoplgdlkaaLaw
import Derived.Test.YthcnkcoplgdlkaaBase2
namespace Go.Proofs.Ythcnkcoplgdlkaa
open Go.RowKit Go.BigFrame

theorem LawLT.size : (Try.prog.info? 24).map (·.size) = some 2 := by kernel_rfl

theorem szLifeTable_yes (first : Int) (A : Option Addr) (n cap : Nat) (left : Int) (w : World) (h0 : (n : Int) ≤ left) (h1 : left ≤ 1048576) :
    Calls Try.prog 78 #[.agg #[.int .i64 first, .slice A n cap], .int .i64 left] w fun e w' => e = .returned (.int .i64 (left - (n : Int))) ∧ Below w.heap.size w w' := by
  have hbw : Below w.heap.size w (w.alloc (.cells #[.int .i64 first, .slice A n cap] 24)) := (Below.refl _ w).alloc (Nat.le_refl _) _
  have HB := Lib.hid (Blk.new w 24 #[.int .i64 first, .slice A n cap])
  have hcT := Lib.hid (Blk.agg (cs := [.int .i64 first, .slice A n cap]) HB.out 0 [.int .i64 first, .slice A n cap] rfl)
  have h2 : ¬ (left - (n : Int) < 0) := by omega
  go_enter Try.func78, Try.ntmps78
  go_wp2_with fail
  refine (szInt64S_yes A n cap left _ h0 h1).mono ?_
  rintro e w1 ⟨rfl, rfl⟩
  go_wp2
  go_ret
  exact ⟨rfl, hbw⟩

theorem szLifeTable_no (first : Int) (A : Option Addr) (n cap : Nat) (left : Int) (w : World) (hn : n ≤ 9223372036854775807) (h0 : left < (n : Int)) (h1 : 0 ≤ left) (h2' : left ≤ 1048576) :
    Calls Try.prog 78 #[.agg #[.int .i64 first, .slice A n cap], .int .i64 left] w fun e w' => e = .returned (.int .i64 (-1)) ∧ Below w.heap.size w w' := by
  have hbw : Below w.heap.size w (w.alloc (.cells #[.int .i64 first, .slice A n cap] 24)) := (Below.refl _ w).alloc (Nat.le_refl _) _
  have HB := Lib.hid (Blk.new w 24 #[.int .i64 first, .slice A n cap])
  have hcT := Lib.hid (Blk.agg (cs := [.int .i64 first, .slice A n cap]) HB.out 0 [.int .i64 first, .slice A n cap] rfl)
  go_enter Try.func78, Try.ntmps78
  go_wp2_with fail
  refine (szInt64S_no A n cap left _ hn h0 h1 h2').mono ?_
  rintro e w1 ⟨rfl, rfl⟩
  go_wp2
  go_ret
  exact ⟨rfl, hbw⟩

theorem szBasis_yes (first rate : Int) (A : Option Addr) (n cap : Nat) (left : Int) (w : World) (h0 : (n : Int) ≤ left) (h1 : left ≤ 1048576) :
    Calls Try.prog 12 #[.agg #[.int .i64 first, .slice A n cap, .int .i64 rate], .int .i64 left] w fun e w' => e = .returned (.int .i64 (left - (n : Int))) ∧ Below w.heap.size w w' := by
  have hbw : Below w.heap.size w (w.alloc (.cells #[.int .i64 first, .slice A n cap, .int .i64 rate] 26)) := (Below.refl _ w).alloc (Nat.le_refl _) _
  have HB := Lib.hid (Blk.new w 26 #[.int .i64 first, .slice A n cap, .int .i64 rate])
  have hcT := Lib.hid (Blk.agg (cs := [.int .i64 first, .slice A n cap, .int .i64 rate]) HB.out 0 [.int .i64 first, .slice A n cap] rfl)
  have h2 : ¬ (left - (n : Int) < 0) := by omega
  go_enter Try.func12, Try.ntmps12
  go_wp2_with (refine wpList_load_agg rfl 24 _ rfl ⟨w.heap.size, 0, none⟩ rfl [.int .i64 first, .slice A n cap] hcT.out _ Try.underlying24 rfl LawLT.size ?_)
  refine (szLifeTable_yes first A n cap left _ h0 h1).mono ?_
  rintro e w1 ⟨rfl, hb1⟩
  go_wp2
  go_ret
  exact ⟨rfl, hbw.trans (hb1.mono hbw.size)⟩

theorem szBasis_no (first rate : Int) (A : Option Addr) (n cap : Nat) (left : Int) (w : World) (hn : n ≤ 9223372036854775807) (h0 : left < (n : Int)) (h1 : 0 ≤ left) (h2' : left ≤ 1048576) :
    Calls Try.prog 12 #[.agg #[.int .i64 first, .slice A n cap, .int .i64 rate], .int .i64 left] w fun e w' => e = .returned (.int .i64 (-1)) ∧ Below w.heap.size w w' := by
  have hbw : Below w.heap.size w (w.alloc (.cells #[.int .i64 first, .slice A n cap, .int .i64 rate] 26)) := (Below.refl _ w).alloc (Nat.le_refl _) _
  have HB := Lib.hid (Blk.new w 26 #[.int .i64 first, .slice A n cap, .int .i64 rate])
  have hcT := Lib.hid (Blk.agg (cs := [.int .i64 first, .slice A n cap, .int .i64 rate]) HB.out 0 [.int .i64 first, .slice A n cap] rfl)
  go_enter Try.func12, Try.ntmps12
  go_wp2_with (refine wpList_load_agg rfl 24 _ rfl ⟨w.heap.size, 0, none⟩ rfl [.int .i64 first, .slice A n cap] hcT.out _ Try.underlying24 rfl LawLT.size ?_)
  refine (szLifeTable_no first A n cap left _ hn h0 h1 h2').mono ?_
  rintro e w1 ⟨rfl, hb1⟩
  go_wp2
  go_ret
  exact ⟨rfl, hbw.trans (hb1.mono hbw.size)⟩


set_option maxHeartbeats 2000000 in
theorem toLifeTable_any (first : Int) (A : Option Addr) (n cap : Nat) (xs : List Int) (w : World) (hn : n ≤ 1048576) (hl : xs.length = n) (hX : Rd w w.heap.size A 1 (intRows xs)) :
    Calls Try.prog 83 #[.agg #[.int .i64 first, .slice A n cap]] w fun e w' => ∃ g, e = .returned (.agg #[.int .i64 first, .slice (some ⟨g, 0, none⟩) n n]) ∧ Res w.heap.size w' 2 1 (some ⟨g, 0, none⟩) n n (intRows xs) ∧ Below w.heap.size w w' := by
  have hbw : Below w.heap.size w (((w.alloc (.cells #[.int .i64 first, .slice A n cap] 24)).alloc (.cells #[.int .i64 0, .slice none 0 0] 30)).alloc (.cells #[.int .i64 first, .slice none 0 0] 30)) := (((Below.refl _ w).alloc (Nat.le_refl _) _).alloc (by simp) _).alloc (by simp <;> omega) _
  have HO := Lib.hid (Blk.new ((w.alloc (.cells #[.int .i64 first, .slice A n cap] 24)).alloc (.cells #[.int .i64 0, .slice none 0 0] 30)) 30 #[.int .i64 first, .slice none 0 0])
  have HC := Lib.hid ((Blk.new (w.alloc (.cells #[.int .i64 first, .slice A n cap] 24)) 30 #[.int .i64 0, .slice none 0 0]).alloc (.cells #[.int .i64 first, .slice none 0 0] 30))
  simp only [World.size_alloc] at HO HC
  have HX := Lib.hid (hX.past hbw); clear hX
  have HL := Lib.hid hl; clear hl
  go_enter Try.func83, Try.ntmps83
  go_wp2_with fail
  refine (toInt64S_any A n cap xs _ hn HL.out HX.out).mono ?_
  rintro e w1 ⟨g, rfl, hR, hb1⟩
  have HR := Lib.hid hR; clear hR
  have HO1 := Lib.hid (HO.out.below' hb1)
  have HC1 := Lib.hid (HC.out.below' hb1)
  have hs1 : w.heap.size + 1 + 1 + 1 ≤ w1.heap.size := by have := hb1.size; simpa using this
  have o1 : w1.cell? ⟨w.heap.size + 1 + 1, 1, none⟩ = some (.slice none 0 0) := HO1.out.cell 1
  have of1 : w1.frozen? ⟨w.heap.size + 1 + 1, 1, none⟩ = false := HO1.out.frozen 1
  have HO2 := Lib.hid (show Blk (w1.setCell ⟨w.heap.size + 1 + 1, 1, none⟩ (.slice (some ⟨g, 0, none⟩) n n)) (w.heap.size + 1 + 1) 30 #[.int .i64 first, .slice (some ⟨g, 0, none⟩) n n] by simpa using HO1.out.set_ 1 (.slice (some ⟨g, 0, none⟩) n n))
  have HC2 := Lib.hid (HC1.out.far (p := ⟨w.heap.size + 1 + 1, 1, none⟩) (by simp) (.slice (some ⟨g, 0, none⟩) n n))
  have hcO := Lib.hid (Blk.agg (cs := [.int .i64 first, .slice (some ⟨g, 0, none⟩) n n]) HO2.out 0 [.int .i64 first, .slice (some ⟨g, 0, none⟩) n n] rfl)
  have H1 : Hid (∀ v ∈ ([.int .i64 first, .slice (some ⟨g, 0, none⟩) n n] : List Value), v.oneCell' = true) := Lib.hid (by simp [Value.oneCell'])
  have hb01 := hbw.trans (hb1.mono hbw.size)
  have hb02 := Lib.hid (hb01.setCell (p := ⟨w.heap.size + 1 + 1, 1, none⟩) (by simp <;> omega) (.slice (some ⟨g, 0, none⟩) n n))
  go_wp2_with (first | (refine wpList_load_agg rfl 30 _ rfl ⟨w.heap.size + 1 + 1, 0, none⟩ rfl [.int .i64 first, .slice (some ⟨g, 0, none⟩) n n] hcO.out _ Try.underlying30 rfl Tab.size ?_) | (refine wpList_store_agg rfl 30 _ _ rfl (w.heap.size + 1) 0 [.int .i64 first, .slice (some ⟨g, 0, none⟩) n n] rfl rfl 30 #[.int .i64 0, .slice none 0 0] HC2.out Tab.size (by simp) H1.out ?_))
  intro w6 hR6 hg6 _
  have hR6' : Blk w6 (w.heap.size + 1) 30 #[.int .i64 first, .slice (some ⟨g, 0, none⟩) n n] := hR6
  have r0 : w6.cell? ⟨w.heap.size + 1, 0, none⟩ = some (.int .i64 first) := hR6'.cell 0
  have r1 : w6.cell? ⟨w.heap.size + 1, 1, none⟩ = some (.slice (some ⟨g, 0, none⟩) n n) := hR6'.cell 1
  go_wp2
  refine bodyPost_ret (v := .agg #[.int .i64 first, .slice (some ⟨g, 0, none⟩) n n]) (by simp [results, Try.results83, go_sem, r0, r1]) rfl ⟨g, rfl, ?_, hb02.out.grown hg6 hb02.out.size (fun k hk => by injection hk with hk; omega)⟩
  have HRr := HR.out
  simp only [World.size_alloc] at HRr
  refine Res.more (B := w.heap.size + 1 + 1 + 1) (HRr.keep fun g' hg' => ?_) (by omega)
  have hlt := HRr.lt hg'
  refine (hg6.block g' (by simpa [World.setCell] using hlt.2) (by intro h; injection h with h; omega)).trans ?_
  exact Below.heap_setCell _ _ _ _ (by simp; omega)

set_option maxHeartbeats 2000000 in
theorem eqLifeTable_any (first : Int) (A A' : Option Addr) (n cap cap' : Nat) (xs : List Int) (w : World) (hn : n ≤ 140737488355328) (hl : xs.length = n) (hX : Rd w w.heap.size A 1 (intRows xs)) (hX' : Rd w w.heap.size A' 1 (intRows xs)) :
    Calls Try.prog 88 #[.agg #[.int .i64 first, .slice A n cap], .agg #[.int .i64 first, .slice A' n cap']] w fun e w' => e = .returned (.bool true) ∧ Below w.heap.size w w' := by
  have hbw : Below w.heap.size w ((w.alloc (.cells #[.int .i64 first, .slice A n cap] 30)).alloc (.cells #[.int .i64 first, .slice A' n cap'] 30)) := ((Below.refl _ w).alloc (Nat.le_refl _) _).alloc (by simp) _
  have HX := Lib.hid (hX.past hbw); clear hX
  have HX' := Lib.hid (hX'.past hbw); clear hX'
  have HL := Lib.hid hl; clear hl
  go_enter Try.func88, Try.ntmps88
  go_wp2_with fail
  refine (eqInt64S_any A A' n cap cap' xs _ hn HL.out HX.out HX'.out).mono ?_
  rintro e w1 ⟨rfl, hb1⟩
  go_wp2
  go_ret
  exact ⟨rfl, hbw.trans (hb1.mono hbw.size)⟩


set_option maxHeartbeats 2000000 in
theorem eqBasis_any (b : Bas) (A A' : Option Addr) (n cap cap' : Nat) (w : World) (hn : n ≤ 140737488355328) (hB : BasT w A n cap b) (hB' : BasT w A' n cap' b) :
    Calls Try.prog 17 #[.agg #[.int .i64 b.first, .slice A n cap, .int .i64 b.rate], .agg #[.int .i64 b.first, .slice A' n cap', .int .i64 b.rate]] w fun e w' => e = .returned (.bool true) ∧ Below w.heap.size w w' := by
  have hbw : Below w.heap.size w ((w.alloc (.cells #[.int .i64 b.first, .slice A n cap, .int .i64 b.rate] 32)).alloc (.cells #[.int .i64 b.first, .slice A' n cap', .int .i64 b.rate] 32)) := ((Below.refl _ w).alloc (Nat.le_refl _) _).alloc (by simp) _
  have HX := Lib.hid (hB.past hbw).lives; clear hB
  have HX' := Lib.hid (hB'.past hbw).lives; clear hB'
  have HB := Lib.hid ((Blk.new w 32 #[.int .i64 b.first, .slice A n cap, .int .i64 b.rate]).alloc (.cells #[.int .i64 b.first, .slice A' n cap', .int .i64 b.rate] 32))
  have HD := Lib.hid (Blk.new (w.alloc (.cells #[.int .i64 b.first, .slice A n cap, .int .i64 b.rate] 32)) 32 #[.int .i64 b.first, .slice A' n cap', .int .i64 b.rate])
  simp only [World.size_alloc] at HD
  have hcT := Lib.hid (Blk.agg (cs := [.int .i64 b.first, .slice A n cap, .int .i64 b.rate]) HB.out 0 [.int .i64 b.first, .slice A n cap] rfl)
  have hcU := Lib.hid (Blk.agg (cs := [.int .i64 b.first, .slice A' n cap', .int .i64 b.rate]) HD.out 0 [.int .i64 b.first, .slice A' n cap'] rfl)
  go_enter Try.func17, Try.ntmps17
  go_wp2_with (first | (refine wpList_load_agg rfl 30 _ rfl ⟨w.heap.size, 0, none⟩ rfl [.int .i64 b.first, .slice A n cap] hcT.out _ Try.underlying30 rfl Tab.size ?_) | (refine wpList_load_agg rfl 30 _ rfl ⟨w.heap.size + 1, 0, none⟩ rfl [.int .i64 b.first, .slice A' n cap'] hcU.out _ Try.underlying30 rfl Tab.size ?_))
  refine (eqLifeTable_any b.first A A' n cap cap' b.lives _ hn HX.out.len HX.out.rd HX'.out.rd).mono ?_
  rintro e w1 ⟨rfl, hb1⟩
  have HB1 := Lib.hid (HB.out.below' hb1); have HD1 := Lib.hid (HD.out.below' hb1)
  have c2 : w1.cell? ⟨w.heap.size, 2, none⟩ = some (.int .i64 b.rate) := HB1.out.cell 2
  have d2 : w1.cell? ⟨w.heap.size + 1, 2, none⟩ = some (.int .i64 b.rate) := HD1.out.cell 2
  go_wp2
  go_ret
  exact ⟨rfl, hbw.trans (hb1.mono hbw.size)⟩


set_option maxHeartbeats 2000000 in
theorem toBasis_any (b : Bas) (A : Option Addr) (n cap : Nat) (w : World) (hB : LiesT w A n b.lives) :
    Calls Try.prog 14 #[.agg #[.int .i64 b.first, .slice A n cap, .int .i64 b.rate]] w fun e w' => ∃ g, e = .returned (.agg #[.int .i64 b.first, .slice (some ⟨g, 0, none⟩) n n, .int .i64 b.rate]) ∧ Res w.heap.size w' 2 1 (some ⟨g, 0, none⟩) n n (intRows b.lives) ∧ Below w.heap.size w w' := by
  have hbw : Below w.heap.size w (((w.alloc (.cells #[.int .i64 b.first, .slice A n cap, .int .i64 b.rate] 26)).alloc (.cells #[.int .i64 0, .slice none 0 0, .int .i64 0] 32)).alloc (.cells #[.int .i64 0, .slice none 0 0, .int .i64 0] 32)) := (((Below.refl _ w).alloc (Nat.le_refl _) _).alloc (by simp) _).alloc (by simp <;> omega) _
  have HA := Lib.hid (((Blk.new w 26 #[.int .i64 b.first, .slice A n cap, .int .i64 b.rate]).alloc (.cells #[.int .i64 0, .slice none 0 0, .int .i64 0] 32)).alloc (.cells #[.int .i64 0, .slice none 0 0, .int .i64 0] 32))
  have HO := Lib.hid (Blk.new ((w.alloc (.cells #[.int .i64 b.first, .slice A n cap, .int .i64 b.rate] 26)).alloc (.cells #[.int .i64 0, .slice none 0 0, .int .i64 0] 32)) 32 #[.int .i64 0, .slice none 0 0, .int .i64 0])
  have HC := Lib.hid ((Blk.new (w.alloc (.cells #[.int .i64 b.first, .slice A n cap, .int .i64 b.rate] 26)) 32 #[.int .i64 0, .slice none 0 0, .int .i64 0]).alloc (.cells #[.int .i64 0, .slice none 0 0, .int .i64 0] 32))
  simp only [World.size_alloc] at HO HC
  have HX := Lib.hid (hB.past hbw); clear hB
  have hcT := Lib.hid (Blk.agg (cs := [.int .i64 b.first, .slice A n cap, .int .i64 b.rate]) HA.out 0 [.int .i64 b.first, .slice A n cap] rfl)
  go_enter Try.func14, Try.ntmps14
  go_wp2_with (refine wpList_load_agg rfl 24 _ rfl ⟨w.heap.size, 0, none⟩ rfl [.int .i64 b.first, .slice A n cap] hcT.out _ Try.underlying24 rfl LawLT.size ?_)
  refine (toLifeTable_any b.first A n cap b.lives _ HX.out.small HX.out.len HX.out.rd).mono ?_
  rintro e w1 ⟨g, rfl, hR, hb1⟩
  have HR := Lib.hid hR; clear hR
  have HA1 := Lib.hid (HA.out.below' hb1)
  have HO1 := Lib.hid (HO.out.below' hb1)
  have HC1 := Lib.hid (HC.out.below' hb1)
  have hs1 : w.heap.size + 1 + 1 + 1 ≤ w1.heap.size := by have := hb1.size; simpa using this
  have hb01 := hbw.trans (hb1.mono hbw.size)
  have H1 : Hid (∀ v ∈ ([.int .i64 b.first, .slice (some ⟨g, 0, none⟩) n n] : List Value), v.oneCell' = true) := Lib.hid (by simp [Value.oneCell'])
  go_wp2_with (refine wpList_store_agg rfl 30 _ _ rfl (w.heap.size + 1 + 1) 0 [.int .i64 b.first, .slice (some ⟨g, 0, none⟩) n n] rfl rfl 32 #[.int .i64 0, .slice none 0 0, .int .i64 0] HO1.out Tab.size (by simp) H1.out ?_)
  intro w2 hR2 hg2 _
  have HO2 := Lib.hid (show Blk w2 (w.heap.size + 1 + 1) 32 #[.int .i64 b.first, .slice (some ⟨g, 0, none⟩) n n, .int .i64 0] from hR2); clear hR2
  have HA2 := Lib.hid (HA1.out.grown hg2 (by simp <;> omega))
  have HC2 := Lib.hid (HC1.out.grown hg2 (by simp <;> omega))
  have a2 : w2.cell? ⟨w.heap.size, 2, none⟩ = some (.int .i64 b.rate) := HA2.out.cell 2
  have o2 : w2.cell? ⟨w.heap.size + 1 + 1, 2, none⟩ = some (.int .i64 0) := HO2.out.cell 2
  have of2 : w2.frozen? ⟨w.heap.size + 1 + 1, 2, none⟩ = false := HO2.out.frozen 2
  have HO3 := Lib.hid (show Blk (w2.setCell ⟨w.heap.size + 1 + 1, 2, none⟩ (.int .i64 b.rate)) (w.heap.size + 1 + 1) 32 #[.int .i64 b.first, .slice (some ⟨g, 0, none⟩) n n, .int .i64 b.rate] by simpa using HO2.out.set_ 2 (.int .i64 b.rate))
  have HC3 := Lib.hid (HC2.out.far (p := ⟨w.heap.size + 1 + 1, 2, none⟩) (by simp) (.int .i64 b.rate))
  have hcO := Lib.hid (Blk.agg (cs := [.int .i64 b.first, .slice (some ⟨g, 0, none⟩) n n, .int .i64 b.rate]) HO3.out 0 [.int .i64 b.first, .slice (some ⟨g, 0, none⟩) n n, .int .i64 b.rate] rfl)
  have H3 : Hid (∀ v ∈ ([.int .i64 b.first, .slice (some ⟨g, 0, none⟩) n n, .int .i64 b.rate] : List Value), v.oneCell' = true) := Lib.hid (by simp [Value.oneCell'])
  have hg2' := Lib.hid hg2
  have hb02 := hb01.grown hg2 hb01.size (fun k hk => by injection hk with hk; omega)
  have hb03 := Lib.hid (hb02.setCell (p := ⟨w.heap.size + 1 + 1, 2, none⟩) (by simp <;> omega) (.int .i64 b.rate))
  go_wp2_with (first | (refine wpList_load_agg rfl 32 _ rfl ⟨w.heap.size + 1 + 1, 0, none⟩ rfl [.int .i64 b.first, .slice (some ⟨g, 0, none⟩) n n, .int .i64 b.rate] hcO.out _ Try.underlying32 rfl Bas.size ?_) | (refine wpList_store_agg rfl 32 _ _ rfl (w.heap.size + 1) 0 [.int .i64 b.first, .slice (some ⟨g, 0, none⟩) n n, .int .i64 b.rate] rfl rfl 32 #[.int .i64 0, .slice none 0 0, .int .i64 0] HC3.out Bas.size (by simp) H3.out ?_))
  intro w6 hR6 hg6 _
  have hR6' : Blk w6 (w.heap.size + 1) 32 #[.int .i64 b.first, .slice (some ⟨g, 0, none⟩) n n, .int .i64 b.rate] := hR6
  have r0 : w6.cell? ⟨w.heap.size + 1, 0, none⟩ = some (.int .i64 b.first) := hR6'.cell 0
  have r1 : w6.cell? ⟨w.heap.size + 1, 1, none⟩ = some (.slice (some ⟨g, 0, none⟩) n n) := hR6'.cell 1
  have r2 : w6.cell? ⟨w.heap.size + 1, 2, none⟩ = some (.int .i64 b.rate) := hR6'.cell 2
  go_wp2
  refine bodyPost_ret (v := .agg #[.int .i64 b.first, .slice (some ⟨g, 0, none⟩) n n, .int .i64 b.rate]) (by simp [results, Try.results14, go_sem, r0, r1, r2]) rfl ⟨g, rfl, ?_, hb03.out.grown hg6 hb03.out.size (fun k hk => by injection hk with hk; omega)⟩
  have HRr := HR.out
  simp only [World.size_alloc] at HRr
  refine Res.more (B := w.heap.size + 1 + 1 + 1) (HRr.keep fun g' hg' => ?_) (by omega)
  have hlt := HRr.lt hg'
  have hsz2 := hg2'.out.size
  refine (hg6.block g' (by simp [World.setCell]; omega) (by intro h; injection h with h; omega)).trans ?_
  refine (Below.heap_setCell _ _ _ _ (by simp; omega)).trans ?_
  exact hg2'.out.block g' hlt.2 (by intro h; injection h with h; omega)

end Go.Proofs.Ythcnkcoplgdlkaa
