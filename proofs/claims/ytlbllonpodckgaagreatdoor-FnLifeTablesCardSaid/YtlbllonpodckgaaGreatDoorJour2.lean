/- The text of a journal: a line: the reference's contract. -/
import Derived.Test.YtlbllonpodckgaaGreatDoorJourP
import Derived.Test.YtlbllonpodckgaaGreatDoorTextS
import Derived.Test.YtlbllonpodckgaaGreatDoorLedg
import Derived.Test.YtlbllonpodckgaaGreatDoorNames
import Derived.Deep.RegionHeld3
namespace Go.Proofs.YtlbllonpodckgaaGreatDoor
open Go.RowKit Go.BigFrame

theorem wpAnyH_strong {P : Program} {md : Region.Mode} {ops : Array Oper} {Q : Exit → Act → World → Prop} {S S2 : World → Prop} (h12 : ∀ w, S2 w → S w) : ∀ (fuel : Nat) (listed : Array Bool) (a : Act) (w : World), wpAnyH P md ops Q S2 fuel listed a w → wpAnyH P md ops Q S fuel listed a w
  | 0, _, _, _, h => h
  | fuel + 1, _, _, _, h => ⟨h.1, fun i hi => wpOp_mono (fun a' w' h' => ⟨h12 _ h'.1, wpAnyH_strong h12 fuel _ a' w' h'.2⟩) (h.2 i hi)⟩
theorem names_at (w : World) :
    Calls Tryz.prog 118 #[] w fun e w' => ∃ g : Nat, e = .returned (.slice (some ⟨g, 0, none⟩) 10 10) ∧ Blk w' g 9 (nameL.map Value.string).toArray ∧ Below w.heap.size w w' :=
  (spec_l22Names_any w).mono fun e w' ⟨h1, h2⟩ => ⟨w.heap.size, h1, by rw [h2]; exact Blk.new w _ _, by rw [h2]; exact (Below.refl _ _).alloc (Nat.le_refl _) _⟩
theorem names_cell {w : World} {g k : Nat} (h : Blk w g 9 (nameL.map Value.string).toArray) (hk : k < 10) : w.cell? ⟨g, k, none⟩ = some (.string (nameB k)) := by
  rw [h.cell]
  have hl : nameL.length = 10 := rfl
  simp [nameB, List.getD, hl, hk]

set_option maxRecDepth 100000 in
set_option maxHeartbeats 4000000 in
theorem spec_l22Line_any (x : Entry) (c : Int) (hc : 0 ≤ c ∧ c < 99991) (hx : EntryOk x) (w : World) :
    Calls Tryz.prog 61 #[.agg x.row.toArray, .int .i64 c] w fun e w' => e = .returned (.string (S (lineL x c))) ∧ Below w.heap.size w w' := by
  obtain ⟨⟨d0, d1⟩, ⟨k0, k1⟩⟩ := And.intro hx.d hx.k
  obtain ⟨D, hD⟩ := Int.eq_ofNat_of_zero_le d0
  obtain ⟨C, hC⟩ := Int.eq_ofNat_of_zero_le k0
  have hD9 : D < 10 := by omega
  have hC9 : C < 10 := by omega
  have hDi : (D : Int) < 10 := by omega
  have hCi : (C : Int) < 10 := by omega
  have hnD : accountName x.debit = nameB D := by rw [accountName, if_pos (inR_true.2 ⟨d0, d1⟩), hD]; rfl
  have hnC : accountName x.credit = nameB C := by rw [accountName, if_pos (inR_true.2 ⟨k0, k1⟩), hC]; rfl
  have QL := Lib.hid (show lineL x c = monthL x.month ++ [32] ++ nameT x.debit ++ [32] ++ nameT x.credit ++ [32] ++ moneyL x.amount ++ [32] ++ decL c from rfl)
  have hzD := name_size x.debit
  have hzC := name_size x.credit
  rw [hnD] at hzD
  rw [hnC] at hzC
  have hzm : (S (monthL x.month)).size = 7 := by rw [S_size, monthL_len _ hx.m]
  have hzy : (S (moneyL x.amount)).size ≤ 30 := by rw [S_size]; exact moneyL_len (by have := hx.a; omega)
  have hzc := decS_len (n := c) (by omega)
  have u1 : ¬ 9223372036854775807 < 8 + (nameB D).size := by omega
  have u2 : ¬ 9223372036854775807 < 8 + (nameB D).size + 1 := by omega
  have u3 : ¬ 9223372036854775807 < 8 + (nameB D).size + 1 + (nameB C).size := by omega
  have u4 : ¬ 9223372036854775807 < 8 + (nameB D).size + 1 + (nameB C).size + 1 := by omega
  have u5 : ¬ 9223372036854775807 < 8 + (nameB D).size + 1 + (nameB C).size + 1 + (S (moneyL x.amount)).size := by omega
  have u6 : ¬ 9223372036854775807 < 8 + (nameB D).size + 1 + (nameB C).size + 1 + (S (moneyL x.amount)).size + 1 := by omega
  have u7 : ¬ 9223372036854775807 < 8 + (nameB D).size + 1 + (nameB C).size + 1 + (S (moneyL x.amount)).size + 1 + (S (decL c)).size := by omega
  have HM := Lib.hid (fun X => spec_l02Text_any x.month hx.m.1 hx.m.2 X)
  have HY := Lib.hid (fun X => spec_l01Text_any x.amount (by have := hx.a; omega) (by have := hx.a; omega) X)
  have HC := Lib.hid (fun X => spec_l01Dec_int c hc.1 (by omega) X)
  have HnD := Lib.hid hnD; clear hnD
  have HnC := Lib.hid hnC; clear hnC
  unfold Entry.row
  rw [hD, hC]
  have HB0 := Lib.hid (show Below w.heap.size w (w.alloc (.cells #[.int .i64 x.month, .int .i64 (D : Int), .int .i64 (C : Int), .int .i64 x.amount] 78)) from (Below.refl _ w).alloc (Nat.le_refl _) _)
  have HBK := Lib.hid (Blk.new w 78 #[.int .i64 x.month, .int .i64 (D : Int), .int .i64 (C : Int), .int .i64 x.amount])
  clear d0 d1 k0 k1 hD hC hx
  go_enter Tryz.func61, Tryz.ntmps61
  go_wp2
  have hzW : (w.alloc (.cells #[.int .i64 x.month, .int .i64 (D : Int), .int .i64 (C : Int), .int .i64 x.amount] 78)).heap.size = w.heap.size + 1 := by simp
  generalize (w.alloc (.cells #[.int .i64 x.month, .int .i64 (D : Int), .int .i64 (C : Int), .int .i64 x.amount] 78)) = W at HB0 HBK hzW ⊢
  have HS := Lib.hid (show ∀ w', Below W.heap.size W w' → Below W.heap.size W w' ∧ w'.cell? ⟨w.heap.size, 0, none⟩ = some (.int .i64 x.month) ∧ w'.cell? ⟨w.heap.size, 1, none⟩ = some (.int .i64 (D : Int)) ∧ w'.cell? ⟨w.heap.size, 2, none⟩ = some (.int .i64 (C : Int)) ∧ w'.cell? ⟨w.heap.size, 3, none⟩ = some (.int .i64 x.amount) from fun w' q => by
    have hb := HBK.out.below' q
    exact ⟨q, hb.cell 0, hb.cell 1, hb.cell 2, hb.cell 3⟩)
  have HDR := Lib.hid ((Below.refl W.heap.size W).drew)
  refine wp_region_held_drew (S := fun w' => Below W.heap.size W w' ∧ w'.cell? ⟨w.heap.size, 0, none⟩ = some (.int .i64 x.month) ∧ w'.cell? ⟨w.heap.size, 1, none⟩ = some (.int .i64 (D : Int)) ∧ w'.cell? ⟨w.heap.size, 2, none⟩ = some (.int .i64 (C : Int)) ∧ w'.cell? ⟨w.heap.size, 3, none⟩ = some (.int .i64 x.amount)) (by kernel_rfl) (HS.out _ HDR.out) (fun hHeld => ?_)
  refine wpAnyH_take (i := 0) (oi := _) (v := .pointer (some ⟨w.heap.size, 0, none⟩)) rfl (by kernel_rfl) (by kernel_rfl) (by kernel_rfl) (fun _ _ _ h => h) (Or.inl ⟨by rfl, ?_⟩) hHeld ?_
  · intro u hSu
    go_simp
  simp only [Act.put, List.setIfInBounds_toArray]
  refine wpAnyH_take (i := 1) (oi := _) (v := .int .i64 x.month) rfl (by kernel_rfl) (by kernel_rfl) (by kernel_rfl) (fun _ _ _ h => h) (Or.inl ⟨by rfl, ?_⟩) hHeld ?_
  · intro u hSu
    go_simp
  simp only [Act.put]
  refine wpAnyH_take (i := 5) (oi := _) (v := .pointer (some ⟨w.heap.size, 1, none⟩)) rfl (by kernel_rfl) (by kernel_rfl) (by kernel_rfl) (fun _ _ _ h => h) (Or.inl ⟨by rfl, ?_⟩) hHeld ?_
  · intro u hSu
    go_simp
  simp only [Act.put]
  refine wpAnyH_take (i := 6) (oi := _) (v := .int .i64 (D : Int)) rfl (by kernel_rfl) (by kernel_rfl) (by kernel_rfl) (fun _ _ _ h => h) (Or.inl ⟨by rfl, ?_⟩) hHeld ?_
  · intro u hSu
    go_simp
  simp only [Act.put]
  refine wpAnyH_take (i := 12) (oi := _) (v := .pointer (some ⟨w.heap.size, 2, none⟩)) rfl (by kernel_rfl) (by kernel_rfl) (by kernel_rfl) (fun _ _ _ h => h) (Or.inl ⟨by rfl, ?_⟩) hHeld ?_
  · intro u hSu
    go_simp
  simp only [Act.put]
  refine wpAnyH_take (i := 13) (oi := _) (v := .int .i64 (C : Int)) rfl (by kernel_rfl) (by kernel_rfl) (by kernel_rfl) (fun _ _ _ h => h) (Or.inl ⟨by rfl, ?_⟩) hHeld ?_
  · intro u hSu
    go_simp
  simp only [Act.put]
  refine wpAnyH_take (i := 18) (oi := _) (v := .pointer (some ⟨w.heap.size, 3, none⟩)) rfl (by kernel_rfl) (by kernel_rfl) (by kernel_rfl) (fun _ _ _ h => h) (Or.inl ⟨by rfl, ?_⟩) hHeld ?_
  · intro u hSu
    go_simp
  simp only [Act.put]
  refine wpAnyH_take (i := 19) (oi := _) (v := .int .i64 x.amount) rfl (by kernel_rfl) (by kernel_rfl) (by kernel_rfl) (fun _ _ _ h => h) (Or.inl ⟨by rfl, ?_⟩) hHeld ?_
  · intro u hSu
    go_simp
  simp only [Act.put]
  refine wpAnyH_take (i := 23) (oi := _) (v := .int .i64 c) rfl (by kernel_rfl) (by kernel_rfl) (by kernel_rfl) (fun _ _ _ h => h) (Or.inl ⟨by rfl, ?_⟩) hHeld ?_
  · intro u hSu
    go_simp
  simp only [Act.put]
  refine wpAnyH_ready (rs := [2]) (by kernel_rfl) (by simp) ?_
  refine AllReadyH.cons (o := _) rfl (fun K hK => ?_) AllReadyH.nil
  go_simp
  refine (HM.out _).mono ?_
  rintro e w1 ⟨rfl, hb1⟩
  have hcc1 := HDR.out.trans (hb1.mono HDR.out.size)
  refine hK.out _ _ ?_ (fun hHeld => ?_)
  · exact HS.out _ hcc1
  clear hK K
  refine wpAnyH_take (i := 3) (oi := _) (v := .string (S (monthL x.month) ++ (⟨#[32]⟩ : ByteArray))) rfl (by kernel_rfl) (by kernel_rfl) (by kernel_rfl) (fun _ _ _ h => h) (Or.inl ⟨by rfl, ?_⟩) hHeld ?_
  · intro u hSu
    go_simp
  simp only [Act.put, List.setIfInBounds_toArray]
  refine wpAnyH_ready (rs := [4]) (by kernel_rfl) (by simp) ?_
  refine AllReadyH.cons (o := _) rfl (fun K hK => ?_) AllReadyH.nil
  go_simp
  refine (names_at _).mono ?_
  rintro e w2 ⟨g1, rfl, hN1, hb2⟩
  have hcc2 := hcc1.trans (hb2.mono hcc1.size)
  refine hK.out _ _ ?_ (fun hHeld => ?_)
  · exact HS.out _ hcc2
  clear hK K
  have HN1 := Lib.hid hN1; clear hN1
  refine wpAnyH_strong (S2 := fun w' => Below W.heap.size W w' ∧ w'.cell? ⟨w.heap.size, 0, none⟩ = some (.int .i64 x.month) ∧ w'.cell? ⟨w.heap.size, 1, none⟩ = some (.int .i64 (D : Int)) ∧ w'.cell? ⟨w.heap.size, 2, none⟩ = some (.int .i64 (C : Int)) ∧ w'.cell? ⟨w.heap.size, 3, none⟩ = some (.int .i64 x.amount) ∧ w'.cell? ⟨g1, D, none⟩ = some (.string (nameB D)) ∧ Blk w' g1 9 (nameL.map Value.string).toArray) (fun _ h => ⟨h.1, h.2.1, h.2.2.1, h.2.2.2.1, h.2.2.2.2.1⟩) _ _ _ _ ?_
  replace hHeld := (show (fun w' => Below W.heap.size W w' ∧ w'.cell? ⟨w.heap.size, 0, none⟩ = some (.int .i64 x.month) ∧ w'.cell? ⟨w.heap.size, 1, none⟩ = some (.int .i64 (D : Int)) ∧ w'.cell? ⟨w.heap.size, 2, none⟩ = some (.int .i64 (C : Int)) ∧ w'.cell? ⟨w.heap.size, 3, none⟩ = some (.int .i64 x.amount) ∧ w'.cell? ⟨g1, D, none⟩ = some (.string (nameB D)) ∧ Blk w' g1 9 (nameL.map Value.string).toArray) w2 from ⟨(HS.out _ hcc2).1, (HS.out _ hcc2).2.1, (HS.out _ hcc2).2.2.1, (HS.out _ hcc2).2.2.2.1, (HS.out _ hcc2).2.2.2.2, names_cell HN1.out hD9, HN1.out⟩)
  refine wpAnyH_take (i := 7) (oi := _) (v := .pointer (some ⟨g1, D, none⟩)) rfl (by kernel_rfl) (by kernel_rfl) (by kernel_rfl) (fun _ _ _ h => h) (Or.inl ⟨by rfl, ?_⟩) hHeld ?_
  · intro u hSu
    go_simp
  simp only [Act.put, List.setIfInBounds_toArray]
  refine wpAnyH_take (i := 8) (oi := _) (v := .string (nameB D)) rfl (by kernel_rfl) (by kernel_rfl) (by kernel_rfl) (fun _ _ _ h => h) (Or.inl ⟨by rfl, ?_⟩) hHeld ?_
  · intro u hSu
    go_simp
  simp only [Act.put]
  refine wpAnyH_take (i := 9) (oi := _) (v := .string (S (monthL x.month) ++ (⟨#[32]⟩ : ByteArray) ++ nameB D)) rfl (by kernel_rfl) (by kernel_rfl) (by kernel_rfl) (fun _ _ _ h => h) (Or.inl ⟨by rfl, ?_⟩) hHeld ?_
  · intro u hSu
    go_simp
  simp only [Act.put]
  refine wpAnyH_take (i := 10) (oi := _) (v := .string (S (monthL x.month) ++ (⟨#[32]⟩ : ByteArray) ++ nameB D ++ (⟨#[32]⟩ : ByteArray))) rfl (by kernel_rfl) (by kernel_rfl) (by kernel_rfl) (fun _ _ _ h => h) (Or.inl ⟨by rfl, ?_⟩) hHeld ?_
  · intro u hSu
    go_simp
  simp only [Act.put]
  refine wpAnyH_ready (rs := [11]) (by kernel_rfl) (by simp) ?_
  refine AllReadyH.cons (o := _) rfl (fun K hK => ?_) AllReadyH.nil
  go_simp
  refine (names_at _).mono ?_
  rintro e w3 ⟨g2, rfl, hN2, hb3⟩
  have hcc3 := hcc2.trans (hb3.mono hcc2.size)
  have HN13 := Lib.hid (HN1.out.below' hb3)
  have HN2 := Lib.hid hN2
  clear hN2
  refine hK.out _ _ ?_ (fun hHeld => ?_)
  · exact ⟨(HS.out _ hcc3).1, (HS.out _ hcc3).2.1, (HS.out _ hcc3).2.2.1, (HS.out _ hcc3).2.2.2.1, (HS.out _ hcc3).2.2.2.2, names_cell (HN13.out) hD9, HN13.out⟩
  clear hK K
  refine wpAnyH_strong (S2 := fun w' => Below W.heap.size W w' ∧ w'.cell? ⟨w.heap.size, 0, none⟩ = some (.int .i64 x.month) ∧ w'.cell? ⟨w.heap.size, 1, none⟩ = some (.int .i64 (D : Int)) ∧ w'.cell? ⟨w.heap.size, 2, none⟩ = some (.int .i64 (C : Int)) ∧ w'.cell? ⟨w.heap.size, 3, none⟩ = some (.int .i64 x.amount) ∧ w'.cell? ⟨g1, D, none⟩ = some (.string (nameB D)) ∧ Blk w' g1 9 (nameL.map Value.string).toArray ∧ w'.cell? ⟨g2, C, none⟩ = some (.string (nameB C)) ∧ Blk w' g2 9 (nameL.map Value.string).toArray) (fun _ h => ⟨h.1, h.2.1, h.2.2.1, h.2.2.2.1, h.2.2.2.2.1, h.2.2.2.2.2.1, h.2.2.2.2.2.2.1⟩) _ _ _ _ ?_
  replace hHeld := (show (fun w' => Below W.heap.size W w' ∧ w'.cell? ⟨w.heap.size, 0, none⟩ = some (.int .i64 x.month) ∧ w'.cell? ⟨w.heap.size, 1, none⟩ = some (.int .i64 (D : Int)) ∧ w'.cell? ⟨w.heap.size, 2, none⟩ = some (.int .i64 (C : Int)) ∧ w'.cell? ⟨w.heap.size, 3, none⟩ = some (.int .i64 x.amount) ∧ w'.cell? ⟨g1, D, none⟩ = some (.string (nameB D)) ∧ Blk w' g1 9 (nameL.map Value.string).toArray ∧ w'.cell? ⟨g2, C, none⟩ = some (.string (nameB C)) ∧ Blk w' g2 9 (nameL.map Value.string).toArray) w3 from ⟨(HS.out _ hcc3).1, (HS.out _ hcc3).2.1, (HS.out _ hcc3).2.2.1, (HS.out _ hcc3).2.2.2.1, (HS.out _ hcc3).2.2.2.2, names_cell (HN13.out) hD9, HN13.out, names_cell (HN2.out) hC9, HN2.out⟩)
  refine wpAnyH_take (i := 14) (oi := _) (v := .pointer (some ⟨g2, C, none⟩)) rfl (by kernel_rfl) (by kernel_rfl) (by kernel_rfl) (fun _ _ _ h => h) (Or.inl ⟨by rfl, ?_⟩) hHeld ?_
  · intro u hSu
    go_simp
  simp only [Act.put, List.setIfInBounds_toArray]
  refine wpAnyH_take (i := 15) (oi := _) (v := .string (nameB C)) rfl (by kernel_rfl) (by kernel_rfl) (by kernel_rfl) (fun _ _ _ h => h) (Or.inl ⟨by rfl, ?_⟩) hHeld ?_
  · intro u hSu
    go_simp
  simp only [Act.put]
  refine wpAnyH_take (i := 16) (oi := _) (v := .string (S (monthL x.month) ++ (⟨#[32]⟩ : ByteArray) ++ nameB D ++ (⟨#[32]⟩ : ByteArray) ++ nameB C)) rfl (by kernel_rfl) (by kernel_rfl) (by kernel_rfl) (fun _ _ _ h => h) (Or.inl ⟨by rfl, ?_⟩) hHeld ?_
  · intro u hSu
    go_simp
  simp only [Act.put]
  refine wpAnyH_take (i := 17) (oi := _) (v := .string (S (monthL x.month) ++ (⟨#[32]⟩ : ByteArray) ++ nameB D ++ (⟨#[32]⟩ : ByteArray) ++ nameB C ++ (⟨#[32]⟩ : ByteArray))) rfl (by kernel_rfl) (by kernel_rfl) (by kernel_rfl) (fun _ _ _ h => h) (Or.inl ⟨by rfl, ?_⟩) hHeld ?_
  · intro u hSu
    go_simp
  simp only [Act.put]
  refine wpAnyH_ready (rs := [20]) (by kernel_rfl) (by simp) ?_
  refine AllReadyH.cons (o := _) rfl (fun K hK => ?_) AllReadyH.nil
  go_simp
  refine (HY.out _).mono ?_
  rintro e w4 ⟨rfl, hb4⟩
  have hcc4 := hcc3.trans (hb4.mono hcc3.size)
  have HN14 := Lib.hid (HN13.out.below' hb4)
  have HN24 := Lib.hid (HN2.out.below' hb4)
  refine hK.out _ _ ?_ (fun hHeld => ?_)
  · exact ⟨(HS.out _ hcc4).1, (HS.out _ hcc4).2.1, (HS.out _ hcc4).2.2.1, (HS.out _ hcc4).2.2.2.1, (HS.out _ hcc4).2.2.2.2, names_cell (HN14.out) hD9, HN14.out, names_cell (HN24.out) hC9, HN24.out⟩
  clear hK K
  refine wpAnyH_take (i := 21) (oi := _) (v := .string (S (monthL x.month) ++ (⟨#[32]⟩ : ByteArray) ++ nameB D ++ (⟨#[32]⟩ : ByteArray) ++ nameB C ++ (⟨#[32]⟩ : ByteArray) ++ S (moneyL x.amount))) rfl (by kernel_rfl) (by kernel_rfl) (by kernel_rfl) (fun _ _ _ h => h) (Or.inl ⟨by rfl, ?_⟩) hHeld ?_
  · intro u hSu
    go_simp
  simp only [Act.put, List.setIfInBounds_toArray]
  refine wpAnyH_take (i := 22) (oi := _) (v := .string (S (monthL x.month) ++ (⟨#[32]⟩ : ByteArray) ++ nameB D ++ (⟨#[32]⟩ : ByteArray) ++ nameB C ++ (⟨#[32]⟩ : ByteArray) ++ S (moneyL x.amount) ++ (⟨#[32]⟩ : ByteArray))) rfl (by kernel_rfl) (by kernel_rfl) (by kernel_rfl) (fun _ _ _ h => h) (Or.inl ⟨by rfl, ?_⟩) hHeld ?_
  · intro u hSu
    go_simp
  simp only [Act.put]
  refine wpAnyH_ready (rs := [24]) (by kernel_rfl) (by simp) ?_
  refine AllReadyH.cons (o := _) rfl (fun K hK => ?_) AllReadyH.nil
  go_simp
  refine (HC.out _).mono ?_
  rintro e w5 ⟨rfl, hb5⟩
  have hcc5 := hcc4.trans (hb5.mono hcc4.size)
  have HN15 := Lib.hid (HN14.out.below' hb5)
  have HN25 := Lib.hid (HN24.out.below' hb5)
  refine hK.out _ _ ?_ (fun hHeld => ?_)
  · exact ⟨(HS.out _ hcc5).1, (HS.out _ hcc5).2.1, (HS.out _ hcc5).2.2.1, (HS.out _ hcc5).2.2.2.1, (HS.out _ hcc5).2.2.2.2, names_cell (HN15.out) hD9, HN15.out, names_cell (HN25.out) hC9, HN25.out⟩
  clear hK K
  refine wpAnyH_take (i := 25) (oi := _) (v := .string (S (monthL x.month) ++ (⟨#[32]⟩ : ByteArray) ++ nameB D ++ (⟨#[32]⟩ : ByteArray) ++ nameB C ++ (⟨#[32]⟩ : ByteArray) ++ S (moneyL x.amount) ++ (⟨#[32]⟩ : ByteArray) ++ S (decL c))) rfl (by kernel_rfl) (by kernel_rfl) (by kernel_rfl) (fun _ _ _ h => h) (Or.inl ⟨by rfl, ?_⟩) hHeld ?_
  · intro u hSu
    go_simp
  simp only [Act.put, List.setIfInBounds_toArray]
  refine wpAnyH_take (i := 26) (oi := _) (v := .string (S (monthL x.month) ++ (⟨#[32]⟩ : ByteArray) ++ nameB D ++ (⟨#[32]⟩ : ByteArray) ++ nameB C ++ (⟨#[32]⟩ : ByteArray) ++ S (moneyL x.amount) ++ (⟨#[32]⟩ : ByteArray) ++ S (decL c))) rfl (by kernel_rfl) (by kernel_rfl) (by kernel_rfl) (fun _ _ _ h => h) (Or.inl ⟨by rfl, ?_⟩) hHeld ?_
  · intro u hSu
    go_simp
  simp only [Act.put]
  refine wpAnyH_done (by kernel_rfl) ?_ _
  all_goals go_wp2
  all_goals go_ret
  all_goals refine ⟨?_, HB0.out.trans (hcc5.mono HB0.out.size)⟩
  all_goals rw [QL.out, ← HnD.out, ← HnC.out, ← S_name, ← S_name]
  all_goals show Ending.returned (.string (S (monthL x.month) ++ S [32] ++ S (nameT x.debit) ++ S [32] ++ S (nameT x.credit) ++ S [32] ++ S (moneyL x.amount) ++ S [32] ++ S (decL c))) = _
  all_goals simp only [S_append]
end Go.Proofs.YtlbllonpodckgaaGreatDoor
