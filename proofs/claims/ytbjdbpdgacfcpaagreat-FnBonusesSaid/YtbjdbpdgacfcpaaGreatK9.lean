/- Parts of a proof, one after another: Chg2. No condition. -/
import Derived.Test.YtbjdbpdgacfcpaaGreatK6
import Derived.Test.YtbjdbpdgacfcpaaGreatK7
import Derived.Test.YtbjdbpdgacfcpaaGreatK8
/- Life tables and bases changed by a scenario: ChangeTable, ChangeBasis: the program's and the reference's contracts. -/
section
namespace Go.Proofs.YtbjdbpdgacfcpaaGreat
open Go.RowKit Go.BigFrame

theorem chg_one (vs : List Value) (h : ∀ v ∈ vs, v.oneCell' = true) : Hid (∀ v ∈ vs, v.oneCell' = true) := Lib.hid h


set_option maxHeartbeats 4000000 in
theorem impl_ChangeTable_any (f : Int) (A : Option Addr) (n cap : Nat) (xs : List Int) (dt : Int) (w : World) (hT : LiesT w A n xs) (hcap : n ≤ cap) (hf : In64 f) (_hd : In64 dt) :
    Calls Tryz.prog 13 #[.agg #[.int .i64 f, .slice A n cap], .int .i64 dt] w fun e w' => ∃ A' n' c', e = .returned (.tuple #[.agg #[.int .i64 (chgTP f xs dt).1, .slice A' n' c'], .int .i64 (chgTP f xs dt).2.2]) ∧ Res w.heap.size w' 2 1 A' n' c' (intRows (chgTP f xs dt).2.1) ∧ Below w.heap.size w w' := by
  have hbw : Below w.heap.size w ((w.alloc (.cells #[.int .i64 f, .slice A n cap] 26)).alloc (.cells #[.int .i64 0, .slice none 0 0] 26)) := ((Below.refl _ w).alloc (Nat.le_refl _) _).alloc (by simp) _
  have HB := Lib.hid ((Blk.new w 26 #[.int .i64 f, .slice A n cap]).alloc (.cells #[.int .i64 0, .slice none 0 0] 26))
  have HO := Lib.hid (Blk.new (w.alloc (.cells #[.int .i64 f, .slice A n cap] 26)) 26 #[.int .i64 0, .slice none 0 0])
  simp only [World.size_alloc] at HO
  have HT := Lib.hid (hT.past hbw); clear hT
  have hcT := Lib.hid (Blk.agg (cs := [.int .i64 f, .slice A n cap]) HB.out 0 [.int .i64 f, .slice A n cap] rfl)
  have H1 := chg_one [.int .i64 0, .slice none 0 0] (by simp [Value.oneCell'])
  cases hp : tableB f xs
  · have Q := Lib.hid (show chgTP f xs dt = (0, [], 1) by simp [chgTP, hp])
    go_enter Tryz.func13, Tryz.ntmps13
    go_wp2_with (refine wpList_load_agg rfl 26 _ rfl ⟨w.heap.size, 0, none⟩ rfl [.int .i64 f, .slice A n cap] hcT.out _ Tryz.underlying26 rfl Tab.size ?_)
    refine (impl_IsLifeTable_any f A n cap xs _ HT.out hcap hf).mono ?_
    rw [hp]
    rintro e w1 ⟨rfl, hb1⟩
    have hb01 := hbw.trans (hb1.mono hbw.size)
    have HO1 := Lib.hid (HO.out.below' hb1)
    have hs1 : w.heap.size + 1 + 1 ≤ w1.heap.size := by have := hb1.size; simpa using this
    go_wp2_with (first | (refine wpList_store_agg rfl 26 _ _ rfl (w.heap.size + 1) 0 [.int .i64 0, .slice none 0 0] rfl rfl 26 #[.int .i64 0, .slice none 0 0] HO1.out Tab.size (by simp) H1.out ?_) | (go_at_call 82; refine (impl_inRange_any _ _ _ _).mono ?_; rintro e w' ⟨rfl, rfl⟩))
    intro w6 hR6 hg6 _
    have hR6' : Blk w6 (w.heap.size + 1) 26 #[.int .i64 0, .slice none 0 0] := hR6
    have r0 : w6.cell? ⟨w.heap.size + 1, 0, none⟩ = some (.int .i64 0) := hR6'.cell 0
    have r1 : w6.cell? ⟨w.heap.size + 1, 1, none⟩ = some (.slice none 0 0) := hR6'.cell 1
    go_wp2
    refine bodyPost_ret (v := .tuple #[.agg #[.int .i64 0, .slice none 0 0], .int .i64 1]) (by simp [results, Tryz.results13, go_sem, r0, r1]) rfl ?_
    refine ⟨none, 0, 0, by rw [Q.out], by rw [Q.out]; exact Res.nil_, hb01.grown hg6 (by have := hs1; omega) (fun k hk => by injection hk with hk; omega)⟩
  cases hi : inR dt (-500) 500
  · have Q := Lib.hid (show chgTP f xs dt = (0, [], 2) by simp [chgTP, hp, hi])
    go_enter Tryz.func13, Tryz.ntmps13
    go_wp2_with (refine wpList_load_agg rfl 26 _ rfl ⟨w.heap.size, 0, none⟩ rfl [.int .i64 f, .slice A n cap] hcT.out _ Tryz.underlying26 rfl Tab.size ?_)
    refine (impl_IsLifeTable_any f A n cap xs _ HT.out hcap hf).mono ?_
    rw [hp]
    rintro e w1 ⟨rfl, hb1⟩
    have hb01 := hbw.trans (hb1.mono hbw.size)
    have HO1 := Lib.hid (HO.out.below' hb1)
    have hs1 : w.heap.size + 1 + 1 ≤ w1.heap.size := by have := hb1.size; simpa using this
    go_wp2_with (first | (refine wpList_store_agg rfl 26 _ _ rfl (w.heap.size + 1) 0 [.int .i64 0, .slice none 0 0] rfl rfl 26 #[.int .i64 0, .slice none 0 0] HO1.out Tab.size (by simp) H1.out ?_) | (go_at_call 82; refine (impl_inRange_any _ _ _ _).mono ?_; rintro e w' ⟨rfl, rfl⟩))
    intro w6 hR6 hg6 _
    have hR6' : Blk w6 (w.heap.size + 1) 26 #[.int .i64 0, .slice none 0 0] := hR6
    have r0 : w6.cell? ⟨w.heap.size + 1, 0, none⟩ = some (.int .i64 0) := hR6'.cell 0
    have r1 : w6.cell? ⟨w.heap.size + 1, 1, none⟩ = some (.slice none 0 0) := hR6'.cell 1
    go_wp2
    refine bodyPost_ret (v := .tuple #[.agg #[.int .i64 0, .slice none 0 0], .int .i64 2]) (by simp [results, Tryz.results13, go_sem, r0, r1]) rfl ?_
    refine ⟨none, 0, 0, by rw [Q.out], by rw [Q.out]; exact Res.nil_, hb01.grown hg6 (by have := hs1; omega) (fun k hk => by injection hk with hk; omega)⟩
  · have Q := Lib.hid (show chgTP f xs dt = (f, chgL xs dt, 0) by simp [chgTP, hp, hi])
    have HTab := Lib.hid (table_ok hp)
    have HDT := Lib.hid (inR_true.1 hi)
    clear H1
    go_enter Tryz.func13, Tryz.ntmps13
    go_wp2_with (refine wpList_load_agg rfl 26 _ rfl ⟨w.heap.size, 0, none⟩ rfl [.int .i64 f, .slice A n cap] hcT.out _ Tryz.underlying26 rfl Tab.size ?_)
    refine (impl_IsLifeTable_any f A n cap xs _ HT.out hcap hf).mono ?_
    rw [hp]
    rintro e w1 ⟨rfl, hb1⟩
    have hb01 := hbw.trans (hb1.mono hbw.size)
    have HO1 := Lib.hid (HO.out.below' hb1)
    have hs1 : w.heap.size + 1 + 1 ≤ w1.heap.size := by have := hb1.size; simpa using this
    have HB1 := Lib.hid (HB.out.below' hb1)
    have hcT1 := Lib.hid (Blk.agg (cs := [.int .i64 f, .slice A n cap]) HB1.out 0 [.int .i64 f, .slice A n cap] rfl)
    go_wp2_with (first | (go_at_call 82; refine (impl_inRange_any _ _ _ _).mono ?_; rintro e w' ⟨rfl, rfl⟩) | (refine wpList_load_agg rfl 26 _ rfl ⟨w.heap.size, 0, none⟩ rfl [.int .i64 f, .slice A n cap] hcT1.out _ Tryz.underlying26 rfl Tab.size ?_))
    refine (impl_changedTable_any f A n cap xs dt _ (HT.out.past hb1) HTab.out HDT.out).mono ?_
    rintro e w2 ⟨A', c', rfl, hR, hb2⟩
    have HR := Lib.hid hR; clear hR
    have HO2 := Lib.hid (HO1.out.below' hb2)
    have hb02 := hb01.trans (hb2.mono hb01.size)
    have hs2 : w.heap.size + 1 + 1 ≤ w2.heap.size := Nat.le_trans hs1 hb2.size
    have H1 := chg_one [.int .i64 f, .slice A' (chgLen xs dt + 1) c'] (by simp [Value.oneCell'])
    go_wp2_with (refine wpList_store_agg rfl 26 _ _ rfl (w.heap.size + 1) 0 [.int .i64 f, .slice A' (chgLen xs dt + 1) c'] rfl rfl 26 #[.int .i64 0, .slice none 0 0] HO2.out Tab.size (by simp) H1.out ?_)
    intro w6 hR6 hg6 _
    have hR6' : Blk w6 (w.heap.size + 1) 26 #[.int .i64 f, .slice A' (chgLen xs dt + 1) c'] := hR6
    have r0 : w6.cell? ⟨w.heap.size + 1, 0, none⟩ = some (.int .i64 f) := hR6'.cell 0
    have r1 : w6.cell? ⟨w.heap.size + 1, 1, none⟩ = some (.slice A' (chgLen xs dt + 1) c') := hR6'.cell 1
    go_wp2
    refine bodyPost_ret (v := .tuple #[.agg #[.int .i64 f, .slice A' (chgLen xs dt + 1) c'], .int .i64 0]) (by simp [results, Tryz.results13, go_sem, r0, r1]) rfl ?_
    refine ⟨A', chgLen xs dt + 1, c', by rw [Q.out], ?_, hb02.grown hg6 (by have := hs2; omega) (fun k hk => by injection hk with hk; omega)⟩
    rw [Q.out]
    refine Res.more (B := w1.heap.size) (HR.out.keep fun g' hg' => ?_) (by omega)
    exact hg6.block g' (HR.out.lt hg').2 (by have := (HR.out.lt hg').1; intro h; injection h with h; omega)


set_option maxHeartbeats 4000000 in
theorem spec_ChangeTable_any (f : Int) (A : Option Addr) (n cap : Nat) (xs : List Int) (dt : Int) (w : World) (hT : LiesT w A n xs) (hcap : n ≤ cap) (hf : In64 f) (_hd : In64 dt) :
    Calls Tryz.prog 14 #[.agg #[.int .i64 f, .slice A n cap], .int .i64 dt] w fun e w' => ∃ A' n' c', e = .returned (.tuple #[.agg #[.int .i64 (chgTP f xs dt).1, .slice A' n' c'], .int .i64 (chgTP f xs dt).2.2]) ∧ Res w.heap.size w' 2 1 A' n' c' (intRows (chgTP f xs dt).2.1) ∧ Below w.heap.size w w' := by
  have hbw : Below w.heap.size w ((w.alloc (.cells #[.int .i64 f, .slice A n cap] 26)).alloc (.cells #[.int .i64 0, .slice none 0 0] 26)) := ((Below.refl _ w).alloc (Nat.le_refl _) _).alloc (by simp) _
  have HB := Lib.hid ((Blk.new w 26 #[.int .i64 f, .slice A n cap]).alloc (.cells #[.int .i64 0, .slice none 0 0] 26))
  have HO := Lib.hid (Blk.new (w.alloc (.cells #[.int .i64 f, .slice A n cap] 26)) 26 #[.int .i64 0, .slice none 0 0])
  simp only [World.size_alloc] at HO
  have HT := Lib.hid (hT.past hbw); clear hT
  have hcT := Lib.hid (Blk.agg (cs := [.int .i64 f, .slice A n cap]) HB.out 0 [.int .i64 f, .slice A n cap] rfl)
  have H1 := chg_one [.int .i64 0, .slice none 0 0] (by simp [Value.oneCell'])
  cases hp : tableB f xs
  · have Q := Lib.hid (show chgTP f xs dt = (0, [], 1) by simp [chgTP, hp])
    go_enter Tryz.func14, Tryz.ntmps14
    go_wp2_with (refine wpList_load_agg rfl 26 _ rfl ⟨w.heap.size, 0, none⟩ rfl [.int .i64 f, .slice A n cap] hcT.out _ Tryz.underlying26 rfl Tab.size ?_)
    refine (spec_IsLifeTable_any f A n cap xs _ HT.out hcap hf).mono ?_
    rw [hp]
    rintro e w1 ⟨rfl, hb1⟩
    have hb01 := hbw.trans (hb1.mono hbw.size)
    have HO1 := Lib.hid (HO.out.below' hb1)
    have hs1 : w.heap.size + 1 + 1 ≤ w1.heap.size := by have := hb1.size; simpa using this
    go_wp2_with (first | (refine wpList_store_agg rfl 26 _ _ rfl (w.heap.size + 1) 0 [.int .i64 0, .slice none 0 0] rfl rfl 26 #[.int .i64 0, .slice none 0 0] HO1.out Tab.size (by simp) H1.out ?_) | (go_at_call 85; refine (spec_l01In_any _ _ _ _).mono ?_; rintro e w' ⟨rfl, rfl⟩))
    intro w6 hR6 hg6 _
    have hR6' : Blk w6 (w.heap.size + 1) 26 #[.int .i64 0, .slice none 0 0] := hR6
    have r0 : w6.cell? ⟨w.heap.size + 1, 0, none⟩ = some (.int .i64 0) := hR6'.cell 0
    have r1 : w6.cell? ⟨w.heap.size + 1, 1, none⟩ = some (.slice none 0 0) := hR6'.cell 1
    go_wp2
    refine bodyPost_ret (v := .tuple #[.agg #[.int .i64 0, .slice none 0 0], .int .i64 1]) (by simp [results, Tryz.results14, go_sem, r0, r1]) rfl ?_
    refine ⟨none, 0, 0, by rw [Q.out], by rw [Q.out]; exact Res.nil_, hb01.grown hg6 (by have := hs1; omega) (fun k hk => by injection hk with hk; omega)⟩
  cases hi : inR dt (-500) 500
  · have Q := Lib.hid (show chgTP f xs dt = (0, [], 2) by simp [chgTP, hp, hi])
    go_enter Tryz.func14, Tryz.ntmps14
    go_wp2_with (refine wpList_load_agg rfl 26 _ rfl ⟨w.heap.size, 0, none⟩ rfl [.int .i64 f, .slice A n cap] hcT.out _ Tryz.underlying26 rfl Tab.size ?_)
    refine (spec_IsLifeTable_any f A n cap xs _ HT.out hcap hf).mono ?_
    rw [hp]
    rintro e w1 ⟨rfl, hb1⟩
    have hb01 := hbw.trans (hb1.mono hbw.size)
    have HO1 := Lib.hid (HO.out.below' hb1)
    have hs1 : w.heap.size + 1 + 1 ≤ w1.heap.size := by have := hb1.size; simpa using this
    go_wp2_with (first | (refine wpList_store_agg rfl 26 _ _ rfl (w.heap.size + 1) 0 [.int .i64 0, .slice none 0 0] rfl rfl 26 #[.int .i64 0, .slice none 0 0] HO1.out Tab.size (by simp) H1.out ?_) | (go_at_call 85; refine (spec_l01In_any _ _ _ _).mono ?_; rintro e w' ⟨rfl, rfl⟩))
    intro w6 hR6 hg6 _
    have hR6' : Blk w6 (w.heap.size + 1) 26 #[.int .i64 0, .slice none 0 0] := hR6
    have r0 : w6.cell? ⟨w.heap.size + 1, 0, none⟩ = some (.int .i64 0) := hR6'.cell 0
    have r1 : w6.cell? ⟨w.heap.size + 1, 1, none⟩ = some (.slice none 0 0) := hR6'.cell 1
    go_wp2
    refine bodyPost_ret (v := .tuple #[.agg #[.int .i64 0, .slice none 0 0], .int .i64 2]) (by simp [results, Tryz.results14, go_sem, r0, r1]) rfl ?_
    refine ⟨none, 0, 0, by rw [Q.out], by rw [Q.out]; exact Res.nil_, hb01.grown hg6 (by have := hs1; omega) (fun k hk => by injection hk with hk; omega)⟩
  · have Q := Lib.hid (show chgTP f xs dt = (f, chgL xs dt, 0) by simp [chgTP, hp, hi])
    have HTab := Lib.hid (table_ok hp)
    have HDT := Lib.hid (inR_true.1 hi)
    clear H1
    go_enter Tryz.func14, Tryz.ntmps14
    go_wp2_with (refine wpList_load_agg rfl 26 _ rfl ⟨w.heap.size, 0, none⟩ rfl [.int .i64 f, .slice A n cap] hcT.out _ Tryz.underlying26 rfl Tab.size ?_)
    refine (spec_IsLifeTable_any f A n cap xs _ HT.out hcap hf).mono ?_
    rw [hp]
    rintro e w1 ⟨rfl, hb1⟩
    have hb01 := hbw.trans (hb1.mono hbw.size)
    have HO1 := Lib.hid (HO.out.below' hb1)
    have hs1 : w.heap.size + 1 + 1 ≤ w1.heap.size := by have := hb1.size; simpa using this
    have HB1 := Lib.hid (HB.out.below' hb1)
    have hcT1 := Lib.hid (Blk.agg (cs := [.int .i64 f, .slice A n cap]) HB1.out 0 [.int .i64 f, .slice A n cap] rfl)
    go_wp2_with (first | (go_at_call 85; refine (spec_l01In_any _ _ _ _).mono ?_; rintro e w' ⟨rfl, rfl⟩) | (refine wpList_load_agg rfl 26 _ rfl ⟨w.heap.size, 0, none⟩ rfl [.int .i64 f, .slice A n cap] hcT1.out _ Tryz.underlying26 rfl Tab.size ?_))
    refine (spec_l21Table_any f A n cap xs dt _ (HT.out.past hb1) HTab.out HDT.out).mono ?_
    rintro e w2 ⟨A', c', rfl, hR, hb2⟩
    have HR := Lib.hid hR; clear hR
    have HO2 := Lib.hid (HO1.out.below' hb2)
    have hb02 := hb01.trans (hb2.mono hb01.size)
    have hs2 : w.heap.size + 1 + 1 ≤ w2.heap.size := Nat.le_trans hs1 hb2.size
    have H1 := chg_one [.int .i64 f, .slice A' (chgLen xs dt + 1) c'] (by simp [Value.oneCell'])
    go_wp2_with (refine wpList_store_agg rfl 26 _ _ rfl (w.heap.size + 1) 0 [.int .i64 f, .slice A' (chgLen xs dt + 1) c'] rfl rfl 26 #[.int .i64 0, .slice none 0 0] HO2.out Tab.size (by simp) H1.out ?_)
    intro w6 hR6 hg6 _
    have hR6' : Blk w6 (w.heap.size + 1) 26 #[.int .i64 f, .slice A' (chgLen xs dt + 1) c'] := hR6
    have r0 : w6.cell? ⟨w.heap.size + 1, 0, none⟩ = some (.int .i64 f) := hR6'.cell 0
    have r1 : w6.cell? ⟨w.heap.size + 1, 1, none⟩ = some (.slice A' (chgLen xs dt + 1) c') := hR6'.cell 1
    go_wp2
    refine bodyPost_ret (v := .tuple #[.agg #[.int .i64 f, .slice A' (chgLen xs dt + 1) c'], .int .i64 0]) (by simp [results, Tryz.results14, go_sem, r0, r1]) rfl ?_
    refine ⟨A', chgLen xs dt + 1, c', by rw [Q.out], ?_, hb02.grown hg6 (by have := hs2; omega) (fun k hk => by injection hk with hk; omega)⟩
    rw [Q.out]
    refine Res.more (B := w1.heap.size) (HR.out.keep fun g' hg' => ?_) (by omega)
    exact hg6.block g' (HR.out.lt hg').2 (by have := (HR.out.lt hg').1; intro h; injection h with h; omega)


theorem spec_l21Scenario_any (r : Scenario) (w : World) :
    Calls Tryz.prog 90 #[.agg r.row.toArray] w fun e w' => e = .returned (.bool (inR r.rate (-200) 200 && inR r.death (-500) 500)) ∧ Below w.heap.size w w' := by
  have hbw : Below w.heap.size w (w.alloc (.cells #[.int .i64 r.rate, .int .i64 r.death] 31)) := (Below.refl _ w).alloc (Nat.le_refl _) _
  unfold Scenario.row at *
  cases h1 : inR r.rate (-200) 200
  · go_enter Tryz.func90, Tryz.ntmps90
    go_wp2_with (first | (go_at_call 85; refine (spec_l01In_any _ _ _ _).mono ?_; rintro e w' ⟨rfl, rfl⟩))
    go_ret
    exact ⟨by simp, hbw⟩
  · go_enter Tryz.func90, Tryz.ntmps90
    go_wp2_with (first | (go_at_call 85; refine (spec_l01In_any _ _ _ _).mono ?_; rintro e w' ⟨rfl, rfl⟩))
    go_ret
    exact ⟨by simp, hbw⟩


set_option maxRecDepth 100000 in
set_option maxHeartbeats 6000000 in
theorem spec_l21Basis_any (b : Bas) (A : Option Addr) (n cap : Nat) (r : Scenario) (w : World) (hB : BasT w A n cap b) (hb : BasOk b) (hr : scenB b r = true) :
    Calls Tryz.prog 92 #[.agg #[.int .i64 b.first, .slice A n cap, .int .i64 b.rate], .agg r.row.toArray] w fun e w' => ∃ A' c', e = .returned (.agg #[.int .i64 b.first, .slice A' (chgLen b.lives r.death + 1) c', .int .i64 (b.rate + r.rate)]) ∧ Res w.heap.size w' 2 1 A' (chgLen b.lives r.death + 1) c' (intRows (chgL b.lives r.death)) ∧ Below w.heap.size w w' := by
  have hbw : Below w.heap.size w (((w.alloc (.cells #[.int .i64 b.first, .slice A n cap, .int .i64 b.rate] 28)).alloc (.cells #[.int .i64 r.rate, .int .i64 r.death] 31)).alloc (.cells #[.int .i64 0, .slice none 0 0, .int .i64 0] 28)) := (((Below.refl _ w).alloc (Nat.le_refl _) _).alloc (by simp) _).alloc (by simp <;> omega) _
  have HB := Lib.hid (((Blk.new w 28 #[.int .i64 b.first, .slice A n cap, .int .i64 b.rate]).alloc (.cells #[.int .i64 r.rate, .int .i64 r.death] 31)).alloc (.cells #[.int .i64 0, .slice none 0 0, .int .i64 0] 28))
  have HC := Lib.hid ((Blk.new (w.alloc (.cells #[.int .i64 b.first, .slice A n cap, .int .i64 b.rate] 28)) 31 #[.int .i64 r.rate, .int .i64 r.death]).alloc (.cells #[.int .i64 0, .slice none 0 0, .int .i64 0] 28))
  have HO := Lib.hid (Blk.new ((w.alloc (.cells #[.int .i64 b.first, .slice A n cap, .int .i64 b.rate] 28)).alloc (.cells #[.int .i64 r.rate, .int .i64 r.death] 31)) 28 #[.int .i64 0, .slice none 0 0, .int .i64 0])
  simp only [World.size_alloc] at HC HO
  have HBT := Lib.hid (hB.past hbw); clear hB
  unfold Scenario.row at *
  have HTab := Lib.hid hb.tab
  obtain ⟨⟨s0, s1⟩, hdt, s4, s5⟩ := scen_ok hr
  have HDT := Lib.hid hdt; clear hdt
  have br0 := hb.rate0; have br1 := hb.rate1
  clear hb hr
  have HD := Lib.hid ((Below.refl (w.heap.size + 2) (((w.alloc (.cells #[.int .i64 b.first, .slice A n cap, .int .i64 b.rate] 28)).alloc (.cells #[.int .i64 r.rate, .int .i64 r.death] 31)).alloc (.cells #[.int .i64 0, .slice none 0 0, .int .i64 0] 28))).drew)
  have HSZ := Lib.hid (show w.heap.size + 3 ≤ (((w.alloc (.cells #[.int .i64 b.first, .slice A n cap, .int .i64 b.rate] 28)).alloc (.cells #[.int .i64 r.rate, .int .i64 r.death] 31)).alloc (.cells #[.int .i64 0, .slice none 0 0, .int .i64 0] 28)).drew.heap.size by show w.heap.size + 3 ≤ (((w.alloc (.cells #[.int .i64 b.first, .slice A n cap, .int .i64 b.rate] 28)).alloc (.cells #[.int .i64 r.rate, .int .i64 r.death] 31)).alloc (.cells #[.int .i64 0, .slice none 0 0, .int .i64 0] 28)).heap.size; simp)
  have HS := Lib.hid (show ∀ w', Below (w.heap.size + 2) (((w.alloc (.cells #[.int .i64 b.first, .slice A n cap, .int .i64 b.rate] 28)).alloc (.cells #[.int .i64 r.rate, .int .i64 r.death] 31)).alloc (.cells #[.int .i64 0, .slice none 0 0, .int .i64 0] 28)) w' → Below (w.heap.size + 2) (((w.alloc (.cells #[.int .i64 b.first, .slice A n cap, .int .i64 b.rate] 28)).alloc (.cells #[.int .i64 r.rate, .int .i64 r.death] 31)).alloc (.cells #[.int .i64 0, .slice none 0 0, .int .i64 0] 28)) w' ∧ w'.cell? ⟨w.heap.size, 0, none⟩ = some (.int .i64 b.first) ∧ w'.cell? ⟨w.heap.size, 1, none⟩ = some (.slice A n cap) ∧ w'.cell? ⟨w.heap.size, 2, none⟩ = some (.int .i64 b.rate) ∧ w'.cell? ⟨w.heap.size + 1, 0, none⟩ = some (.int .i64 r.rate) ∧ w'.cell? ⟨w.heap.size + 1, 1, none⟩ = some (.int .i64 r.death) from fun w' q => by
    have HB' := HB.out.below q (by omega)
    have HC' := HC.out.below q (by omega)
    exact ⟨q, (HB'.cell 0), (HB'.cell 1), (HB'.cell 2), (HC'.cell 0), (HC'.cell 1)⟩)
  have hwr : IntKind.i64.wrap (b.rate + r.rate) = b.rate + r.rate := IntWalk.i64_in _ (by omega)
  go_enter Tryz.func92, Tryz.ntmps92
  go_wp2
  go_region_held3 (fun w' => Below (w.heap.size + 2) (((w.alloc (.cells #[.int .i64 b.first, .slice A n cap, .int .i64 b.rate] 28)).alloc (.cells #[.int .i64 r.rate, .int .i64 r.death] 31)).alloc (.cells #[.int .i64 0, .slice none 0 0, .int .i64 0] 28)) w' ∧ w'.cell? ⟨w.heap.size, 0, none⟩ = some (.int .i64 b.first) ∧ w'.cell? ⟨w.heap.size, 1, none⟩ = some (.slice A n cap) ∧ w'.cell? ⟨w.heap.size, 2, none⟩ = some (.int .i64 b.rate) ∧ w'.cell? ⟨w.heap.size + 1, 0, none⟩ = some (.int .i64 r.rate) ∧ w'.cell? ⟨w.heap.size + 1, 1, none⟩ = some (.int .i64 r.death)) (first | exact HS.out _ HD.out | exact HS.out _ hc3 | exact HS.out _ (Below.setCell (Below.setCell (Below.setCell hc3 (by show _ ≤ _; simp) _) (by show _ ≤ _; simp) _) (by show _ ≤ _; simp) _)) (first | (go_at_call 86; rename Below (w.heap.size + 2) _ _ ∧ _ => hH; refine (spec_l21Table_any b.first A n cap b.lives r.death _ (HBT.out.past ((Below.refl _ _).drew)).lives HTab.out HDT.out).mono ?_; rintro e w3 ⟨A', c', rfl, hR3, hb3⟩; have hc3 := Below.trans hH.1 (hb3.mono (by first | exact Nat.le_trans (by simp) hH.1.size | simp)); have HR3 := Lib.hid hR3; clear hR3; have HO3 := Lib.hid (HO.out.drew.below' hb3); have zc0 : w3.cell? ⟨w.heap.size + 1 + 1, 0, none⟩ = some (.int .i64 0) := HO3.out.cell 0; have zc1 : w3.cell? ⟨w.heap.size + 1 + 1, 1, none⟩ = some (.slice none 0 0) := HO3.out.cell 1; have zc2 : w3.cell? ⟨w.heap.size + 1 + 1, 2, none⟩ = some (.int .i64 0) := HO3.out.cell 2; have zf0 : w3.frozen? ⟨w.heap.size + 1 + 1, 0, none⟩ = false := HO3.out.frozen 0; have zf1 : w3.frozen? ⟨w.heap.size + 1 + 1, 1, none⟩ = false := HO3.out.frozen 1; have zf2 : w3.frozen? ⟨w.heap.size + 1 + 1, 2, none⟩ = false := HO3.out.frozen 2))
  all_goals (rename Below (w.heap.size + 2) _ _ ∧ _ => hE; clear hE)
  have HW := Lib.hid (show Blk (((w3.setCell ⟨w.heap.size + 1 + 1, 0, none⟩ (.int .i64 b.first)).setCell ⟨w.heap.size + 1 + 1, 1, none⟩ (.slice A' (chgLen b.lives r.death + 1) c')).setCell ⟨w.heap.size + 1 + 1, 2, none⟩ (.int .i64 (b.rate + r.rate))) (w.heap.size + 1 + 1) 28 #[.int .i64 b.first, .slice A' (chgLen b.lives r.death + 1) c', .int .i64 (b.rate + r.rate)] ∧ Below w.heap.size w (((w3.setCell ⟨w.heap.size + 1 + 1, 0, none⟩ (.int .i64 b.first)).setCell ⟨w.heap.size + 1 + 1, 1, none⟩ (.slice A' (chgLen b.lives r.death + 1) c')).setCell ⟨w.heap.size + 1 + 1, 2, none⟩ (.int .i64 (b.rate + r.rate))) ∧ Res w.heap.size (((w3.setCell ⟨w.heap.size + 1 + 1, 0, none⟩ (.int .i64 b.first)).setCell ⟨w.heap.size + 1 + 1, 1, none⟩ (.slice A' (chgLen b.lives r.death + 1) c')).setCell ⟨w.heap.size + 1 + 1, 2, none⟩ (.int .i64 (b.rate + r.rate))) 2 1 A' (chgLen b.lives r.death + 1) c' (intRows (chgL b.lives r.death)) from by
    have hO := HO3.out.lt
    have hc3' := hbw.trans (hc3.mono (by omega))
    refine ⟨by simpa using ((HO3.out.set_ 0 (.int .i64 b.first)).set_ 1 (.slice A' (chgLen b.lives r.death + 1) c')).set_ 2 (.int .i64 (b.rate + r.rate)), ((hc3'.setCell (by show w.heap.size ≤ w.heap.size + 1 + 1; omega) _).setCell (by show w.heap.size ≤ w.heap.size + 1 + 1; omega) _).setCell (by show w.heap.size ≤ w.heap.size + 1 + 1; omega) _, ?_⟩
    refine Res.more (HR3.out.keep fun g' hg' => ?_) (Nat.le_trans (by omega) HSZ.out)
    have hlt := (HR3.out.lt hg').1
    have hne : g' ≠ w.heap.size + 1 + 1 := by have := HSZ.out; omega
    exact ((Below.heap_setCell _ _ _ _ hne).trans (Below.heap_setCell _ _ _ _ hne)).trans (Below.heap_setCell _ _ _ _ hne))
  generalize (((w3.setCell ⟨w.heap.size + 1 + 1, 0, none⟩ (.int .i64 b.first)).setCell ⟨w.heap.size + 1 + 1, 1, none⟩ (.slice A' (chgLen b.lives r.death + 1) c')).setCell ⟨w.heap.size + 1 + 1, 2, none⟩ (.int .i64 (b.rate + r.rate))) = W5 at HW ⊢
  obtain ⟨hK, hBE, hRE⟩ := HW.out
  have r0 : W5.cell? ⟨w.heap.size + 1 + 1, 0, none⟩ = some (.int .i64 b.first) := hK.cell 0
  have r1 : W5.cell? ⟨w.heap.size + 1 + 1, 1, none⟩ = some (.slice A' (chgLen b.lives r.death + 1) c') := hK.cell 1
  have r2 : W5.cell? ⟨w.heap.size + 1 + 1, 2, none⟩ = some (.int .i64 (b.rate + r.rate)) := hK.cell 2
  have HBE := Lib.hid hBE; have HRE := Lib.hid hRE
  clear hK hBE hRE
  go_wp2
  refine bodyPost_ret (v := .agg #[.int .i64 b.first, .slice A' (chgLen b.lives r.death + 1) c', .int .i64 (b.rate + r.rate)]) (by simp [results, Tryz.results92, go_sem, r0, r1, r2]) rfl ⟨A', c', rfl, HRE.out, HBE.out⟩


set_option maxRecDepth 100000 in
set_option maxHeartbeats 6000000 in
theorem spec_ChangeBasis_any (b : Bas) (A : Option Addr) (n cap : Nat) (r : Scenario) (w : World) (hB : BasT w A n cap b) (_hr : r.fits) :
    Calls Tryz.prog 17 #[.agg #[.int .i64 b.first, .slice A n cap, .int .i64 b.rate], .agg r.row.toArray] w fun e w' => ∃ A' n' c', e = .returned (.tuple #[.agg #[.int .i64 (chgBP b r).1.first, .slice A' n' c', .int .i64 (chgBP b r).1.rate], .int .i64 (chgBP b r).2]) ∧ Res w.heap.size w' 2 1 A' n' c' (intRows (chgBP b r).1.lives) ∧ Below w.heap.size w w' := by
  have hbw : Below w.heap.size w (((w.alloc (.cells #[.int .i64 b.first, .slice A n cap, .int .i64 b.rate] 28)).alloc (.cells #[.int .i64 r.rate, .int .i64 r.death] 31)).alloc (.cells #[.int .i64 0, .slice none 0 0, .int .i64 0] 28)) := (((Below.refl _ w).alloc (Nat.le_refl _) _).alloc (by simp) _).alloc (by simp <;> omega) _
  have HB := Lib.hid (((Blk.new w 28 #[.int .i64 b.first, .slice A n cap, .int .i64 b.rate]).alloc (.cells #[.int .i64 r.rate, .int .i64 r.death] 31)).alloc (.cells #[.int .i64 0, .slice none 0 0, .int .i64 0] 28))
  have HC := Lib.hid ((Blk.new (w.alloc (.cells #[.int .i64 b.first, .slice A n cap, .int .i64 b.rate] 28)) 31 #[.int .i64 r.rate, .int .i64 r.death]).alloc (.cells #[.int .i64 0, .slice none 0 0, .int .i64 0] 28))
  have HO := Lib.hid (Blk.new ((w.alloc (.cells #[.int .i64 b.first, .slice A n cap, .int .i64 b.rate] 28)).alloc (.cells #[.int .i64 r.rate, .int .i64 r.death] 31)) 28 #[.int .i64 0, .slice none 0 0, .int .i64 0])
  simp only [World.size_alloc] at HC HO
  have HBT := Lib.hid (hB.past hbw); clear hB
  unfold Scenario.row at *
  have hcB := Lib.hid (Blk.agg (cs := [.int .i64 b.first, .slice A n cap, .int .i64 b.rate]) HB.out 0 [.int .i64 b.first, .slice A n cap, .int .i64 b.rate] rfl)
  have H1 := chg_one [.int .i64 0, .slice none 0 0, .int .i64 0] (by simp [Value.oneCell'])
  cases hp : basisB b
  · have Q := Lib.hid (show chgBP b r = (⟨0, [], 0⟩, 1) by simp [chgBP, hp])
    go_enter Tryz.func17, Tryz.ntmps17
    go_wp2_with (refine wpList_load_agg rfl 28 _ rfl ⟨w.heap.size, 0, none⟩ rfl [.int .i64 b.first, .slice A n cap, .int .i64 b.rate] hcB.out _ Tryz.underlying28 rfl Bas.size ?_)
    refine (spec_IsBasis_any b A n cap _ HBT.out).mono ?_
    rw [hp]
    rintro e w1 ⟨rfl, hb1⟩
    have hb01 := hbw.trans (hb1.mono hbw.size)
    have HB1 := Lib.hid (HB.out.below' hb1)
    have HC1 := Lib.hid (HC.out.below' hb1)
    have HO1 := Lib.hid (HO.out.below' hb1)
    have HBT1 := Lib.hid (HBT.out.past hb1)
    have hs1 : w.heap.size + 1 + 1 + 1 ≤ w1.heap.size := by have := hb1.size; simpa using this
    go_wp2_with (first | (refine wpList_store_agg rfl 28 _ _ rfl (w.heap.size + 1 + 1) 0 [.int .i64 0, .slice none 0 0, .int .i64 0] rfl rfl 28 #[.int .i64 0, .slice none 0 0, .int .i64 0] HO1.out Bas.size (by simp) H1.out ?_))
    intro w6 hR6 hg6 _
    have hR6' : Blk w6 (w.heap.size + 1 + 1) 28 #[.int .i64 0, .slice none 0 0, .int .i64 0] := hR6
    have r0 : w6.cell? ⟨w.heap.size + 1 + 1, 0, none⟩ = some (.int .i64 0) := hR6'.cell 0
    have r1 : w6.cell? ⟨w.heap.size + 1 + 1, 1, none⟩ = some (.slice none 0 0) := hR6'.cell 1
    have r2 : w6.cell? ⟨w.heap.size + 1 + 1, 2, none⟩ = some (.int .i64 0) := hR6'.cell 2
    go_wp2
    refine bodyPost_ret (v := .tuple #[.agg #[.int .i64 0, .slice none 0 0, .int .i64 0], .int .i64 1]) (by simp [results, Tryz.results17, go_sem, r0, r1, r2]) rfl ?_
    refine ⟨none, 0, 0, by rw [Q.out], by rw [Q.out]; exact Res.nil_, hb01.grown hg6 (by have := hs1; omega) (fun k hk => by injection hk with hk; omega)⟩
  have HBK := Lib.hid (basis_ok hp)
  have br0 := HBK.out.rate0; have br1 := HBK.out.rate1

  obtain ⟨s12, h12⟩ : ∃ s, (inR r.rate (-200) 200 && inR r.death (-500) 500) = s := ⟨_, rfl⟩
  have HS12 := Lib.hid h12; clear h12
  cases s12
  · have Q := Lib.hid (show chgBP b r = (⟨0, [], 0⟩, 2) by have h := HS12.out; simp [chgBP, hp, scenB]; intro h1 h2; simp [h1, h2] at h)
    go_enter Tryz.func17, Tryz.ntmps17
    go_wp2_with (refine wpList_load_agg rfl 28 _ rfl ⟨w.heap.size, 0, none⟩ rfl [.int .i64 b.first, .slice A n cap, .int .i64 b.rate] hcB.out _ Tryz.underlying28 rfl Bas.size ?_)
    refine (spec_IsBasis_any b A n cap _ HBT.out).mono ?_
    rw [hp]
    rintro e w1 ⟨rfl, hb1⟩
    have hb01 := hbw.trans (hb1.mono hbw.size)
    have HB1 := Lib.hid (HB.out.below' hb1)
    have HC1 := Lib.hid (HC.out.below' hb1)
    have HO1 := Lib.hid (HO.out.below' hb1)
    have HBT1 := Lib.hid (HBT.out.past hb1)
    have hs1 : w.heap.size + 1 + 1 + 1 ≤ w1.heap.size := by have := hb1.size; simpa using this
    have hcC1 := Lib.hid (Blk.agg (cs := [.int .i64 r.rate, .int .i64 r.death]) HC1.out 0 [.int .i64 r.rate, .int .i64 r.death] rfl)
    go_wp2_with (refine wpList_load_agg rfl 31 _ rfl ⟨w.heap.size + 1, 0, none⟩ rfl [.int .i64 r.rate, .int .i64 r.death] hcC1.out _ Tryz.underlying31 rfl Scenario.size ?_)
    refine (spec_l21Scenario_any r _).mono ?_
    rw [HS12.out]
    rintro e w2 ⟨rfl, hb2⟩
    replace hb01 := hb01.trans (hb2.mono hb01.size)
    replace HO1 := Lib.hid (HO1.out.below' hb2)
    have HB2 := Lib.hid (HB1.out.below' hb2)
    have HC2 := Lib.hid (HC1.out.below' hb2)
    replace HBT1 := Lib.hid (HBT1.out.past hb2)
    replace hs1 := Nat.le_trans hs1 hb2.size
    have q0 : w2.cell? ⟨w.heap.size, 2, none⟩ = some (.int .i64 b.rate) := HB2.out.cell 2
    have q1 : w2.cell? ⟨w.heap.size + 1, 0, none⟩ = some (.int .i64 r.rate) := HC2.out.cell 0
    go_wp2_with (first | (refine wpList_store_agg rfl 28 _ _ rfl (w.heap.size + 1 + 1) 0 [.int .i64 0, .slice none 0 0, .int .i64 0] rfl rfl 28 #[.int .i64 0, .slice none 0 0, .int .i64 0] HO1.out Bas.size (by simp) H1.out ?_))
    intro w6 hR6 hg6 _
    have hR6' : Blk w6 (w.heap.size + 1 + 1) 28 #[.int .i64 0, .slice none 0 0, .int .i64 0] := hR6
    have r0 : w6.cell? ⟨w.heap.size + 1 + 1, 0, none⟩ = some (.int .i64 0) := hR6'.cell 0
    have r1 : w6.cell? ⟨w.heap.size + 1 + 1, 1, none⟩ = some (.slice none 0 0) := hR6'.cell 1
    have r2 : w6.cell? ⟨w.heap.size + 1 + 1, 2, none⟩ = some (.int .i64 0) := hR6'.cell 2
    go_wp2
    refine bodyPost_ret (v := .tuple #[.agg #[.int .i64 0, .slice none 0 0, .int .i64 0], .int .i64 2]) (by simp [results, Tryz.results17, go_sem, r0, r1, r2]) rfl ?_
    refine ⟨none, 0, 0, by rw [Q.out], by rw [Q.out]; exact Res.nil_, hb01.grown hg6 (by have := hs1; omega) (fun k hk => by injection hk with hk; omega)⟩
  have hs2 := HS12.out
  simp only [Bool.and_eq_true, inR_true] at hs2
  obtain ⟨⟨t0, t1⟩, t2, t3⟩ := hs2
  cases h3 : inR (b.rate + r.rate) 0 200
  · have Q := Lib.hid (show chgBP b r = (⟨0, [], 0⟩, 2) by simp [chgBP, hp, scenB, h3])
    go_enter Tryz.func17, Tryz.ntmps17
    go_wp2_with (refine wpList_load_agg rfl 28 _ rfl ⟨w.heap.size, 0, none⟩ rfl [.int .i64 b.first, .slice A n cap, .int .i64 b.rate] hcB.out _ Tryz.underlying28 rfl Bas.size ?_)
    refine (spec_IsBasis_any b A n cap _ HBT.out).mono ?_
    rw [hp]
    rintro e w1 ⟨rfl, hb1⟩
    have hb01 := hbw.trans (hb1.mono hbw.size)
    have HB1 := Lib.hid (HB.out.below' hb1)
    have HC1 := Lib.hid (HC.out.below' hb1)
    have HO1 := Lib.hid (HO.out.below' hb1)
    have HBT1 := Lib.hid (HBT.out.past hb1)
    have hs1 : w.heap.size + 1 + 1 + 1 ≤ w1.heap.size := by have := hb1.size; simpa using this
    have hcC1 := Lib.hid (Blk.agg (cs := [.int .i64 r.rate, .int .i64 r.death]) HC1.out 0 [.int .i64 r.rate, .int .i64 r.death] rfl)
    go_wp2_with (refine wpList_load_agg rfl 31 _ rfl ⟨w.heap.size + 1, 0, none⟩ rfl [.int .i64 r.rate, .int .i64 r.death] hcC1.out _ Tryz.underlying31 rfl Scenario.size ?_)
    refine (spec_l21Scenario_any r _).mono ?_
    rw [HS12.out]
    rintro e w2 ⟨rfl, hb2⟩
    replace hb01 := hb01.trans (hb2.mono hb01.size)
    replace HO1 := Lib.hid (HO1.out.below' hb2)
    have HB2 := Lib.hid (HB1.out.below' hb2)
    have HC2 := Lib.hid (HC1.out.below' hb2)
    replace HBT1 := Lib.hid (HBT1.out.past hb2)
    replace hs1 := Nat.le_trans hs1 hb2.size
    have q0 : w2.cell? ⟨w.heap.size, 2, none⟩ = some (.int .i64 b.rate) := HB2.out.cell 2
    have q1 : w2.cell? ⟨w.heap.size + 1, 0, none⟩ = some (.int .i64 r.rate) := HC2.out.cell 0
    go_wp2_with (first | (refine wpList_store_agg rfl 28 _ _ rfl (w.heap.size + 1 + 1) 0 [.int .i64 0, .slice none 0 0, .int .i64 0] rfl rfl 28 #[.int .i64 0, .slice none 0 0, .int .i64 0] HO1.out Bas.size (by simp) H1.out ?_) | (go_at_call 91; refine (spec_l04Rate_any _ _).mono ?_; rintro e w' ⟨rfl, rfl⟩))
    intro w6 hR6 hg6 _
    have hR6' : Blk w6 (w.heap.size + 1 + 1) 28 #[.int .i64 0, .slice none 0 0, .int .i64 0] := hR6
    have r0 : w6.cell? ⟨w.heap.size + 1 + 1, 0, none⟩ = some (.int .i64 0) := hR6'.cell 0
    have r1 : w6.cell? ⟨w.heap.size + 1 + 1, 1, none⟩ = some (.slice none 0 0) := hR6'.cell 1
    have r2 : w6.cell? ⟨w.heap.size + 1 + 1, 2, none⟩ = some (.int .i64 0) := hR6'.cell 2
    go_wp2
    refine bodyPost_ret (v := .tuple #[.agg #[.int .i64 0, .slice none 0 0, .int .i64 0], .int .i64 2]) (by simp [results, Tryz.results17, go_sem, r0, r1, r2]) rfl ?_
    refine ⟨none, 0, 0, by rw [Q.out], by rw [Q.out]; exact Res.nil_, hb01.grown hg6 (by have := hs1; omega) (fun k hk => by injection hk with hk; omega)⟩
  · have HSC := Lib.hid (show scenB b r = true by have h := HS12.out; simp only [Bool.and_eq_true] at h; simp [scenB, h.1, h.2, h3])
    have Q := Lib.hid (show chgBP b r = (chgB b r, 0) by simp [chgBP, hp, HSC.out])
    clear H1
    go_enter Tryz.func17, Tryz.ntmps17
    go_wp2_with (refine wpList_load_agg rfl 28 _ rfl ⟨w.heap.size, 0, none⟩ rfl [.int .i64 b.first, .slice A n cap, .int .i64 b.rate] hcB.out _ Tryz.underlying28 rfl Bas.size ?_)
    refine (spec_IsBasis_any b A n cap _ HBT.out).mono ?_
    rw [hp]
    rintro e w1 ⟨rfl, hb1⟩
    have hb01 := hbw.trans (hb1.mono hbw.size)
    have HB1 := Lib.hid (HB.out.below' hb1)
    have HC1 := Lib.hid (HC.out.below' hb1)
    have HO1 := Lib.hid (HO.out.below' hb1)
    have HBT1 := Lib.hid (HBT.out.past hb1)
    have hs1 : w.heap.size + 1 + 1 + 1 ≤ w1.heap.size := by have := hb1.size; simpa using this
    have hcC1 := Lib.hid (Blk.agg (cs := [.int .i64 r.rate, .int .i64 r.death]) HC1.out 0 [.int .i64 r.rate, .int .i64 r.death] rfl)
    go_wp2_with (refine wpList_load_agg rfl 31 _ rfl ⟨w.heap.size + 1, 0, none⟩ rfl [.int .i64 r.rate, .int .i64 r.death] hcC1.out _ Tryz.underlying31 rfl Scenario.size ?_)
    refine (spec_l21Scenario_any r _).mono ?_
    rw [HS12.out]
    rintro e w2 ⟨rfl, hb2⟩
    replace hb01 := hb01.trans (hb2.mono hb01.size)
    replace HO1 := Lib.hid (HO1.out.below' hb2)
    have HB2 := Lib.hid (HB1.out.below' hb2)
    have HC2 := Lib.hid (HC1.out.below' hb2)
    replace HBT1 := Lib.hid (HBT1.out.past hb2)
    replace hs1 := Nat.le_trans hs1 hb2.size
    have q0 : w2.cell? ⟨w.heap.size, 2, none⟩ = some (.int .i64 b.rate) := HB2.out.cell 2
    have q1 : w2.cell? ⟨w.heap.size + 1, 0, none⟩ = some (.int .i64 r.rate) := HC2.out.cell 0
    have hcB2 := Lib.hid (Blk.agg (cs := [.int .i64 b.first, .slice A n cap, .int .i64 b.rate]) HB2.out 0 [.int .i64 b.first, .slice A n cap, .int .i64 b.rate] rfl)
    have hcC2 := Lib.hid (Blk.agg (cs := [.int .i64 r.rate, .int .i64 r.death]) HC2.out 0 [.int .i64 r.rate, .int .i64 r.death] rfl)
    go_wp2_with (first | (go_at_call 91; refine (spec_l04Rate_any _ _).mono ?_; rintro e w' ⟨rfl, rfl⟩) | (refine wpList_load_agg rfl 28 _ rfl ⟨w.heap.size, 0, none⟩ rfl [.int .i64 b.first, .slice A n cap, .int .i64 b.rate] hcB2.out _ Tryz.underlying28 rfl Bas.size ?_) | (refine wpList_load_agg rfl 31 _ rfl ⟨w.heap.size + 1, 0, none⟩ rfl [.int .i64 r.rate, .int .i64 r.death] hcC2.out _ Tryz.underlying31 rfl Scenario.size ?_))
    refine (spec_l21Basis_any b A n cap r _ HBT1.out HBK.out HSC.out).mono ?_
    rintro e w3 ⟨A', c', rfl, hR, hb3⟩
    have HR := Lib.hid hR; clear hR
    have HO3 := Lib.hid (HO1.out.below' hb3)
    have hb03 := hb01.trans (hb3.mono hb01.size)
    have hs3 : w.heap.size + 1 + 1 + 1 ≤ w3.heap.size := Nat.le_trans hs1 hb3.size
    have H1 := chg_one [.int .i64 b.first, .slice A' (chgLen b.lives r.death + 1) c', .int .i64 (b.rate + r.rate)] (by simp [Value.oneCell'])
    go_wp2_with (refine wpList_store_agg rfl 28 _ _ rfl (w.heap.size + 1 + 1) 0 [.int .i64 b.first, .slice A' (chgLen b.lives r.death + 1) c', .int .i64 (b.rate + r.rate)] rfl rfl 28 #[.int .i64 0, .slice none 0 0, .int .i64 0] HO3.out Bas.size (by simp) H1.out ?_)
    intro w6 hR6 hg6 _
    have hR6' : Blk w6 (w.heap.size + 1 + 1) 28 #[.int .i64 b.first, .slice A' (chgLen b.lives r.death + 1) c', .int .i64 (b.rate + r.rate)] := hR6
    have r0 : w6.cell? ⟨w.heap.size + 1 + 1, 0, none⟩ = some (.int .i64 b.first) := hR6'.cell 0
    have r1 : w6.cell? ⟨w.heap.size + 1 + 1, 1, none⟩ = some (.slice A' (chgLen b.lives r.death + 1) c') := hR6'.cell 1
    have r2 : w6.cell? ⟨w.heap.size + 1 + 1, 2, none⟩ = some (.int .i64 (b.rate + r.rate)) := hR6'.cell 2
    go_wp2
    refine bodyPost_ret (v := .tuple #[.agg #[.int .i64 b.first, .slice A' (chgLen b.lives r.death + 1) c', .int .i64 (b.rate + r.rate)], .int .i64 0]) (by simp [results, Tryz.results17, go_sem, r0, r1, r2]) rfl ?_
    refine ⟨A', chgLen b.lives r.death + 1, c', by rw [Q.out]; rfl, ?_, hb03.grown hg6 (by have := hs3; omega) (fun k hk => by injection hk with hk; omega)⟩
    rw [Q.out]
    refine Res.more (B := w2.heap.size) (HR.out.keep fun g' hg' => ?_) (by omega)
    exact hg6.block g' (HR.out.lt hg').2 (by have := (HR.out.lt hg').1; intro h; injection h with h; omega)


set_option maxRecDepth 100000 in
set_option maxHeartbeats 6000000 in
theorem impl_ChangeBasis_any (b : Bas) (A : Option Addr) (n cap : Nat) (r : Scenario) (w : World) (hB : BasT w A n cap b) (_hr : r.fits) :
    Calls Tryz.prog 16 #[.agg #[.int .i64 b.first, .slice A n cap, .int .i64 b.rate], .agg r.row.toArray] w fun e w' => ∃ A' n' c', e = .returned (.tuple #[.agg #[.int .i64 (chgBP b r).1.first, .slice A' n' c', .int .i64 (chgBP b r).1.rate], .int .i64 (chgBP b r).2]) ∧ Res w.heap.size w' 2 1 A' n' c' (intRows (chgBP b r).1.lives) ∧ Below w.heap.size w w' := by
  have hbw : Below w.heap.size w (((w.alloc (.cells #[.int .i64 b.first, .slice A n cap, .int .i64 b.rate] 28)).alloc (.cells #[.int .i64 r.rate, .int .i64 r.death] 31)).alloc (.cells #[.int .i64 0, .slice none 0 0, .int .i64 0] 28)) := (((Below.refl _ w).alloc (Nat.le_refl _) _).alloc (by simp) _).alloc (by simp <;> omega) _
  have HB := Lib.hid (((Blk.new w 28 #[.int .i64 b.first, .slice A n cap, .int .i64 b.rate]).alloc (.cells #[.int .i64 r.rate, .int .i64 r.death] 31)).alloc (.cells #[.int .i64 0, .slice none 0 0, .int .i64 0] 28))
  have HC := Lib.hid ((Blk.new (w.alloc (.cells #[.int .i64 b.first, .slice A n cap, .int .i64 b.rate] 28)) 31 #[.int .i64 r.rate, .int .i64 r.death]).alloc (.cells #[.int .i64 0, .slice none 0 0, .int .i64 0] 28))
  have HO := Lib.hid (Blk.new ((w.alloc (.cells #[.int .i64 b.first, .slice A n cap, .int .i64 b.rate] 28)).alloc (.cells #[.int .i64 r.rate, .int .i64 r.death] 31)) 28 #[.int .i64 0, .slice none 0 0, .int .i64 0])
  simp only [World.size_alloc] at HC HO
  have HBT := Lib.hid (hB.past hbw); clear hB
  unfold Scenario.row at *
  have hcB := Lib.hid (Blk.agg (cs := [.int .i64 b.first, .slice A n cap, .int .i64 b.rate]) HB.out 0 [.int .i64 b.first, .slice A n cap, .int .i64 b.rate] rfl)
  have H1 := chg_one [.int .i64 0, .slice none 0 0, .int .i64 0] (by simp [Value.oneCell'])
  cases hp : basisB b
  · have Q := Lib.hid (show chgBP b r = (⟨0, [], 0⟩, 1) by simp [chgBP, hp])
    go_enter Tryz.func16, Tryz.ntmps16
    go_wp2_with (refine wpList_load_agg rfl 28 _ rfl ⟨w.heap.size, 0, none⟩ rfl [.int .i64 b.first, .slice A n cap, .int .i64 b.rate] hcB.out _ Tryz.underlying28 rfl Bas.size ?_)
    refine (impl_IsBasis_any b A n cap _ HBT.out).mono ?_
    rw [hp]
    rintro e w1 ⟨rfl, hb1⟩
    have hb01 := hbw.trans (hb1.mono hbw.size)
    have HB1 := Lib.hid (HB.out.below' hb1)
    have HC1 := Lib.hid (HC.out.below' hb1)
    have HO1 := Lib.hid (HO.out.below' hb1)
    have HBT1 := Lib.hid (HBT.out.past hb1)
    have hs1 : w.heap.size + 1 + 1 + 1 ≤ w1.heap.size := by have := hb1.size; simpa using this
    go_wp2_with (first | (refine wpList_store_agg rfl 28 _ _ rfl (w.heap.size + 1 + 1) 0 [.int .i64 0, .slice none 0 0, .int .i64 0] rfl rfl 28 #[.int .i64 0, .slice none 0 0, .int .i64 0] HO1.out Bas.size (by simp) H1.out ?_))
    intro w6 hR6 hg6 _
    have hR6' : Blk w6 (w.heap.size + 1 + 1) 28 #[.int .i64 0, .slice none 0 0, .int .i64 0] := hR6
    have r0 : w6.cell? ⟨w.heap.size + 1 + 1, 0, none⟩ = some (.int .i64 0) := hR6'.cell 0
    have r1 : w6.cell? ⟨w.heap.size + 1 + 1, 1, none⟩ = some (.slice none 0 0) := hR6'.cell 1
    have r2 : w6.cell? ⟨w.heap.size + 1 + 1, 2, none⟩ = some (.int .i64 0) := hR6'.cell 2
    go_wp2
    refine bodyPost_ret (v := .tuple #[.agg #[.int .i64 0, .slice none 0 0, .int .i64 0], .int .i64 1]) (by simp [results, Tryz.results16, go_sem, r0, r1, r2]) rfl ?_
    refine ⟨none, 0, 0, by rw [Q.out], by rw [Q.out]; exact Res.nil_, hb01.grown hg6 (by have := hs1; omega) (fun k hk => by injection hk with hk; omega)⟩
  have HBK := Lib.hid (basis_ok hp)
  have br0 := HBK.out.rate0; have br1 := HBK.out.rate1

  cases h1 : inR r.rate (-200) 200
  · have Q := Lib.hid (show chgBP b r = (⟨0, [], 0⟩, 2) by simp [chgBP, hp, scenB, h1])
    go_enter Tryz.func16, Tryz.ntmps16
    go_wp2_with (refine wpList_load_agg rfl 28 _ rfl ⟨w.heap.size, 0, none⟩ rfl [.int .i64 b.first, .slice A n cap, .int .i64 b.rate] hcB.out _ Tryz.underlying28 rfl Bas.size ?_)
    refine (impl_IsBasis_any b A n cap _ HBT.out).mono ?_
    rw [hp]
    rintro e w1 ⟨rfl, hb1⟩
    have hb01 := hbw.trans (hb1.mono hbw.size)
    have HB1 := Lib.hid (HB.out.below' hb1)
    have HC1 := Lib.hid (HC.out.below' hb1)
    have HO1 := Lib.hid (HO.out.below' hb1)
    have HBT1 := Lib.hid (HBT.out.past hb1)
    have hs1 : w.heap.size + 1 + 1 + 1 ≤ w1.heap.size := by have := hb1.size; simpa using this
    have q0 : w1.cell? ⟨w.heap.size, 2, none⟩ = some (.int .i64 b.rate) := HB1.out.cell 2
    have q1 : w1.cell? ⟨w.heap.size + 1, 0, none⟩ = some (.int .i64 r.rate) := HC1.out.cell 0
    have q2 : w1.cell? ⟨w.heap.size + 1, 1, none⟩ = some (.int .i64 r.death) := HC1.out.cell 1
    go_wp2_with (first | (refine wpList_store_agg rfl 28 _ _ rfl (w.heap.size + 1 + 1) 0 [.int .i64 0, .slice none 0 0, .int .i64 0] rfl rfl 28 #[.int .i64 0, .slice none 0 0, .int .i64 0] HO1.out Bas.size (by simp) H1.out ?_) | (go_at_call 82; refine (impl_inRange_any _ _ _ _).mono ?_; rintro e w' ⟨rfl, rfl⟩) | (go_at_call 88; refine (impl_isRate_any _ _).mono ?_; rintro e w' ⟨rfl, rfl⟩))
    intro w6 hR6 hg6 _
    have hR6' : Blk w6 (w.heap.size + 1 + 1) 28 #[.int .i64 0, .slice none 0 0, .int .i64 0] := hR6
    have r0 : w6.cell? ⟨w.heap.size + 1 + 1, 0, none⟩ = some (.int .i64 0) := hR6'.cell 0
    have r1 : w6.cell? ⟨w.heap.size + 1 + 1, 1, none⟩ = some (.slice none 0 0) := hR6'.cell 1
    have r2 : w6.cell? ⟨w.heap.size + 1 + 1, 2, none⟩ = some (.int .i64 0) := hR6'.cell 2
    go_wp2
    refine bodyPost_ret (v := .tuple #[.agg #[.int .i64 0, .slice none 0 0, .int .i64 0], .int .i64 2]) (by simp [results, Tryz.results16, go_sem, r0, r1, r2]) rfl ?_
    refine ⟨none, 0, 0, by rw [Q.out], by rw [Q.out]; exact Res.nil_, hb01.grown hg6 (by have := hs1; omega) (fun k hk => by injection hk with hk; omega)⟩
  obtain ⟨t0, t1⟩ := inR_true.1 h1
  cases h2 : inR r.death (-500) 500
  · have Q := Lib.hid (show chgBP b r = (⟨0, [], 0⟩, 2) by simp [chgBP, hp, scenB, h1, h2])
    go_enter Tryz.func16, Tryz.ntmps16
    go_wp2_with (refine wpList_load_agg rfl 28 _ rfl ⟨w.heap.size, 0, none⟩ rfl [.int .i64 b.first, .slice A n cap, .int .i64 b.rate] hcB.out _ Tryz.underlying28 rfl Bas.size ?_)
    refine (impl_IsBasis_any b A n cap _ HBT.out).mono ?_
    rw [hp]
    rintro e w1 ⟨rfl, hb1⟩
    have hb01 := hbw.trans (hb1.mono hbw.size)
    have HB1 := Lib.hid (HB.out.below' hb1)
    have HC1 := Lib.hid (HC.out.below' hb1)
    have HO1 := Lib.hid (HO.out.below' hb1)
    have HBT1 := Lib.hid (HBT.out.past hb1)
    have hs1 : w.heap.size + 1 + 1 + 1 ≤ w1.heap.size := by have := hb1.size; simpa using this
    have q0 : w1.cell? ⟨w.heap.size, 2, none⟩ = some (.int .i64 b.rate) := HB1.out.cell 2
    have q1 : w1.cell? ⟨w.heap.size + 1, 0, none⟩ = some (.int .i64 r.rate) := HC1.out.cell 0
    have q2 : w1.cell? ⟨w.heap.size + 1, 1, none⟩ = some (.int .i64 r.death) := HC1.out.cell 1
    go_wp2_with (first | (refine wpList_store_agg rfl 28 _ _ rfl (w.heap.size + 1 + 1) 0 [.int .i64 0, .slice none 0 0, .int .i64 0] rfl rfl 28 #[.int .i64 0, .slice none 0 0, .int .i64 0] HO1.out Bas.size (by simp) H1.out ?_) | (go_at_call 82; refine (impl_inRange_any _ _ _ _).mono ?_; rintro e w' ⟨rfl, rfl⟩) | (go_at_call 88; refine (impl_isRate_any _ _).mono ?_; rintro e w' ⟨rfl, rfl⟩))
    intro w6 hR6 hg6 _
    have hR6' : Blk w6 (w.heap.size + 1 + 1) 28 #[.int .i64 0, .slice none 0 0, .int .i64 0] := hR6
    have r0 : w6.cell? ⟨w.heap.size + 1 + 1, 0, none⟩ = some (.int .i64 0) := hR6'.cell 0
    have r1 : w6.cell? ⟨w.heap.size + 1 + 1, 1, none⟩ = some (.slice none 0 0) := hR6'.cell 1
    have r2 : w6.cell? ⟨w.heap.size + 1 + 1, 2, none⟩ = some (.int .i64 0) := hR6'.cell 2
    go_wp2
    refine bodyPost_ret (v := .tuple #[.agg #[.int .i64 0, .slice none 0 0, .int .i64 0], .int .i64 2]) (by simp [results, Tryz.results16, go_sem, r0, r1, r2]) rfl ?_
    refine ⟨none, 0, 0, by rw [Q.out], by rw [Q.out]; exact Res.nil_, hb01.grown hg6 (by have := hs1; omega) (fun k hk => by injection hk with hk; omega)⟩
  cases h3 : inR (b.rate + r.rate) 0 200
  · have Q := Lib.hid (show chgBP b r = (⟨0, [], 0⟩, 2) by simp [chgBP, hp, scenB, h1, h2, h3])
    go_enter Tryz.func16, Tryz.ntmps16
    go_wp2_with (refine wpList_load_agg rfl 28 _ rfl ⟨w.heap.size, 0, none⟩ rfl [.int .i64 b.first, .slice A n cap, .int .i64 b.rate] hcB.out _ Tryz.underlying28 rfl Bas.size ?_)
    refine (impl_IsBasis_any b A n cap _ HBT.out).mono ?_
    rw [hp]
    rintro e w1 ⟨rfl, hb1⟩
    have hb01 := hbw.trans (hb1.mono hbw.size)
    have HB1 := Lib.hid (HB.out.below' hb1)
    have HC1 := Lib.hid (HC.out.below' hb1)
    have HO1 := Lib.hid (HO.out.below' hb1)
    have HBT1 := Lib.hid (HBT.out.past hb1)
    have hs1 : w.heap.size + 1 + 1 + 1 ≤ w1.heap.size := by have := hb1.size; simpa using this
    have q0 : w1.cell? ⟨w.heap.size, 2, none⟩ = some (.int .i64 b.rate) := HB1.out.cell 2
    have q1 : w1.cell? ⟨w.heap.size + 1, 0, none⟩ = some (.int .i64 r.rate) := HC1.out.cell 0
    have q2 : w1.cell? ⟨w.heap.size + 1, 1, none⟩ = some (.int .i64 r.death) := HC1.out.cell 1
    go_wp2_with (first | (refine wpList_store_agg rfl 28 _ _ rfl (w.heap.size + 1 + 1) 0 [.int .i64 0, .slice none 0 0, .int .i64 0] rfl rfl 28 #[.int .i64 0, .slice none 0 0, .int .i64 0] HO1.out Bas.size (by simp) H1.out ?_) | (go_at_call 82; refine (impl_inRange_any _ _ _ _).mono ?_; rintro e w' ⟨rfl, rfl⟩) | (go_at_call 88; refine (impl_isRate_any _ _).mono ?_; rintro e w' ⟨rfl, rfl⟩))
    intro w6 hR6 hg6 _
    have hR6' : Blk w6 (w.heap.size + 1 + 1) 28 #[.int .i64 0, .slice none 0 0, .int .i64 0] := hR6
    have r0 : w6.cell? ⟨w.heap.size + 1 + 1, 0, none⟩ = some (.int .i64 0) := hR6'.cell 0
    have r1 : w6.cell? ⟨w.heap.size + 1 + 1, 1, none⟩ = some (.slice none 0 0) := hR6'.cell 1
    have r2 : w6.cell? ⟨w.heap.size + 1 + 1, 2, none⟩ = some (.int .i64 0) := hR6'.cell 2
    go_wp2
    refine bodyPost_ret (v := .tuple #[.agg #[.int .i64 0, .slice none 0 0, .int .i64 0], .int .i64 2]) (by simp [results, Tryz.results16, go_sem, r0, r1, r2]) rfl ?_
    refine ⟨none, 0, 0, by rw [Q.out], by rw [Q.out]; exact Res.nil_, hb01.grown hg6 (by have := hs1; omega) (fun k hk => by injection hk with hk; omega)⟩
  have HSC := Lib.hid (show scenB b r = true by simp [scenB, h1, h2, h3])
  have Q := Lib.hid (show chgBP b r = (chgB b r, 0) by simp [chgBP, hp, HSC.out])
  have HTab := Lib.hid HBK.out.tab
  have HDT := Lib.hid (inR_true.1 h2)
  have hwr : IntKind.i64.wrap (b.rate + r.rate) = b.rate + r.rate := IntWalk.i64_in _ (by omega)
  clear H1
  go_enter Tryz.func16, Tryz.ntmps16
  go_wp2_with (refine wpList_load_agg rfl 28 _ rfl ⟨w.heap.size, 0, none⟩ rfl [.int .i64 b.first, .slice A n cap, .int .i64 b.rate] hcB.out _ Tryz.underlying28 rfl Bas.size ?_)
  refine (impl_IsBasis_any b A n cap _ HBT.out).mono ?_
  rw [hp]
  rintro e w1 ⟨rfl, hb1⟩
  have hb01 := hbw.trans (hb1.mono hbw.size)
  have HB1 := Lib.hid (HB.out.below' hb1)
  have HC1 := Lib.hid (HC.out.below' hb1)
  have HO1 := Lib.hid (HO.out.below' hb1)
  have HBT1 := Lib.hid (HBT.out.past hb1)
  have hs1 : w.heap.size + 1 + 1 + 1 ≤ w1.heap.size := by have := hb1.size; simpa using this
  have q0 : w1.cell? ⟨w.heap.size, 2, none⟩ = some (.int .i64 b.rate) := HB1.out.cell 2
  have q1 : w1.cell? ⟨w.heap.size + 1, 0, none⟩ = some (.int .i64 r.rate) := HC1.out.cell 0
  have q2 : w1.cell? ⟨w.heap.size + 1, 1, none⟩ = some (.int .i64 r.death) := HC1.out.cell 1
  have HB2 : Below (w.heap.size + 2) (((w.alloc (.cells #[.int .i64 b.first, .slice A n cap, .int .i64 b.rate] 28)).alloc (.cells #[.int .i64 r.rate, .int .i64 r.death] 31)).alloc (.cells #[.int .i64 0, .slice none 0 0, .int .i64 0] 28)) w1 := hb1.mono (by simp)
  have HD := Lib.hid HB2.drew
  have HSZ := Lib.hid (show w.heap.size + 3 ≤ w1.drew.heap.size from hs1)
  have HS := Lib.hid (show ∀ w', Below (w.heap.size + 2) (((w.alloc (.cells #[.int .i64 b.first, .slice A n cap, .int .i64 b.rate] 28)).alloc (.cells #[.int .i64 r.rate, .int .i64 r.death] 31)).alloc (.cells #[.int .i64 0, .slice none 0 0, .int .i64 0] 28)) w' → Below (w.heap.size + 2) (((w.alloc (.cells #[.int .i64 b.first, .slice A n cap, .int .i64 b.rate] 28)).alloc (.cells #[.int .i64 r.rate, .int .i64 r.death] 31)).alloc (.cells #[.int .i64 0, .slice none 0 0, .int .i64 0] 28)) w' ∧ w'.cell? ⟨w.heap.size, 0, none⟩ = some (.int .i64 b.first) ∧ w'.cell? ⟨w.heap.size, 1, none⟩ = some (.slice A n cap) ∧ w'.cell? ⟨w.heap.size, 2, none⟩ = some (.int .i64 b.rate) ∧ w'.cell? ⟨w.heap.size + 1, 0, none⟩ = some (.int .i64 r.rate) ∧ w'.cell? ⟨w.heap.size + 1, 1, none⟩ = some (.int .i64 r.death) from fun w' q => by
    have HB' := HB.out.below q (by omega)
    have HC' := HC.out.below q (by omega)
    exact ⟨q, (HB'.cell 0), (HB'.cell 1), (HB'.cell 2), (HC'.cell 0), (HC'.cell 1)⟩)
  go_wp2_with (first  | (go_at_call 82; refine (impl_inRange_any _ _ _ _).mono ?_; rintro e w' ⟨rfl, rfl⟩) | (go_at_call 88; refine (impl_isRate_any _ _).mono ?_; rintro e w' ⟨rfl, rfl⟩))
  go_region_held3 (fun w' => Below (w.heap.size + 2) (((w.alloc (.cells #[.int .i64 b.first, .slice A n cap, .int .i64 b.rate] 28)).alloc (.cells #[.int .i64 r.rate, .int .i64 r.death] 31)).alloc (.cells #[.int .i64 0, .slice none 0 0, .int .i64 0] 28)) w' ∧ w'.cell? ⟨w.heap.size, 0, none⟩ = some (.int .i64 b.first) ∧ w'.cell? ⟨w.heap.size, 1, none⟩ = some (.slice A n cap) ∧ w'.cell? ⟨w.heap.size, 2, none⟩ = some (.int .i64 b.rate) ∧ w'.cell? ⟨w.heap.size + 1, 0, none⟩ = some (.int .i64 r.rate) ∧ w'.cell? ⟨w.heap.size + 1, 1, none⟩ = some (.int .i64 r.death)) (first | exact HS.out _ HD.out | exact HS.out _ hc3 | exact HS.out _ (Below.setCell (Below.setCell (Below.setCell hc3 (by show _ ≤ _; simp) _) (by show _ ≤ _; simp) _) (by show _ ≤ _; simp) _)) (first | (go_at_call 83; rename Below (w.heap.size + 2) _ _ ∧ _ => hH; refine (impl_changedTable_any b.first A n cap b.lives r.death _ (HBT1.out.past ((Below.refl _ _).drew)).lives HTab.out HDT.out).mono ?_; rintro e w3 ⟨A', c', rfl, hR3, hb3⟩; have hc3 := Below.trans hH.1 (hb3.mono (by first | exact Nat.le_trans (by simp) hH.1.size | simp)); have HR3 := Lib.hid hR3; clear hR3; have HO3 := Lib.hid (HO1.out.drew.below' hb3); have zc0 : w3.cell? ⟨w.heap.size + 1 + 1, 0, none⟩ = some (.int .i64 0) := HO3.out.cell 0; have zc1 : w3.cell? ⟨w.heap.size + 1 + 1, 1, none⟩ = some (.slice none 0 0) := HO3.out.cell 1; have zc2 : w3.cell? ⟨w.heap.size + 1 + 1, 2, none⟩ = some (.int .i64 0) := HO3.out.cell 2; have zf0 : w3.frozen? ⟨w.heap.size + 1 + 1, 0, none⟩ = false := HO3.out.frozen 0; have zf1 : w3.frozen? ⟨w.heap.size + 1 + 1, 1, none⟩ = false := HO3.out.frozen 1; have zf2 : w3.frozen? ⟨w.heap.size + 1 + 1, 2, none⟩ = false := HO3.out.frozen 2))
  all_goals (rename Below (w.heap.size + 2) _ _ ∧ _ => hE; clear hE)
  have HW := Lib.hid (show Blk (((w3.setCell ⟨w.heap.size + 1 + 1, 0, none⟩ (.int .i64 b.first)).setCell ⟨w.heap.size + 1 + 1, 1, none⟩ (.slice A' (chgLen b.lives r.death + 1) c')).setCell ⟨w.heap.size + 1 + 1, 2, none⟩ (.int .i64 (b.rate + r.rate))) (w.heap.size + 1 + 1) 28 #[.int .i64 b.first, .slice A' (chgLen b.lives r.death + 1) c', .int .i64 (b.rate + r.rate)] ∧ Below w.heap.size w (((w3.setCell ⟨w.heap.size + 1 + 1, 0, none⟩ (.int .i64 b.first)).setCell ⟨w.heap.size + 1 + 1, 1, none⟩ (.slice A' (chgLen b.lives r.death + 1) c')).setCell ⟨w.heap.size + 1 + 1, 2, none⟩ (.int .i64 (b.rate + r.rate))) ∧ Res w.heap.size (((w3.setCell ⟨w.heap.size + 1 + 1, 0, none⟩ (.int .i64 b.first)).setCell ⟨w.heap.size + 1 + 1, 1, none⟩ (.slice A' (chgLen b.lives r.death + 1) c')).setCell ⟨w.heap.size + 1 + 1, 2, none⟩ (.int .i64 (b.rate + r.rate))) 2 1 A' (chgLen b.lives r.death + 1) c' (intRows (chgL b.lives r.death)) from by
    have hO := HO3.out.lt
    have hc3' := hbw.trans (hc3.mono (by omega))
    refine ⟨by simpa using ((HO3.out.set_ 0 (.int .i64 b.first)).set_ 1 (.slice A' (chgLen b.lives r.death + 1) c')).set_ 2 (.int .i64 (b.rate + r.rate)), ((hc3'.setCell (by show w.heap.size ≤ w.heap.size + 1 + 1; omega) _).setCell (by show w.heap.size ≤ w.heap.size + 1 + 1; omega) _).setCell (by show w.heap.size ≤ w.heap.size + 1 + 1; omega) _, ?_⟩
    refine Res.more (HR3.out.keep fun g' hg' => ?_) (Nat.le_trans (by omega) HSZ.out)
    have hlt := (HR3.out.lt hg').1
    have hne : g' ≠ w.heap.size + 1 + 1 := by have := HSZ.out; omega
    exact ((Below.heap_setCell _ _ _ _ hne).trans (Below.heap_setCell _ _ _ _ hne)).trans (Below.heap_setCell _ _ _ _ hne))
  generalize (((w3.setCell ⟨w.heap.size + 1 + 1, 0, none⟩ (.int .i64 b.first)).setCell ⟨w.heap.size + 1 + 1, 1, none⟩ (.slice A' (chgLen b.lives r.death + 1) c')).setCell ⟨w.heap.size + 1 + 1, 2, none⟩ (.int .i64 (b.rate + r.rate))) = W5 at HW ⊢
  obtain ⟨hK, hBE, hRE⟩ := HW.out
  have r0 : W5.cell? ⟨w.heap.size + 1 + 1, 0, none⟩ = some (.int .i64 b.first) := hK.cell 0
  have r1 : W5.cell? ⟨w.heap.size + 1 + 1, 1, none⟩ = some (.slice A' (chgLen b.lives r.death + 1) c') := hK.cell 1
  have r2 : W5.cell? ⟨w.heap.size + 1 + 1, 2, none⟩ = some (.int .i64 (b.rate + r.rate)) := hK.cell 2
  have HBE := Lib.hid hBE; have HRE := Lib.hid hRE
  clear hK hBE hRE
  go_wp2
  refine bodyPost_ret (v := .tuple #[.agg #[.int .i64 b.first, .slice A' (chgLen b.lives r.death + 1) c', .int .i64 (b.rate + r.rate)], .int .i64 0]) (by simp [results, Tryz.results16, go_sem, r0, r1, r2]) rfl ⟨A', chgLen b.lives r.death + 1, c', by rw [Q.out]; rfl, by rw [Q.out]; exact HRE.out, HBE.out⟩

end Go.Proofs.YtbjdbpdgacfcpaaGreat
end
