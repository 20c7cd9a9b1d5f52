/- The text of a journal: the check number and a line: the program's and the reference's contracts. -/
import Derived.Test.YtlbllonpodckgaaGreatDoorJourP
import Derived.Test.YtlbllonpodckgaaGreatDoorTextI
import Derived.Test.YtlbllonpodckgaaGreatDoorTextS
import Derived.Test.YtlbllonpodckgaaGreatDoorLedg
import Derived.Deep.RegionLaw
namespace Go.Proofs.YtlbllonpodckgaaGreatDoor
open Go.RowKit Go.BigFrame

set_option maxHeartbeats 1000000 in
theorem impl_nextCheck_any (c : Int) (x : Entry) (hc : 0 ≤ c ∧ c < 99991) (hx : EntryOk x) (w : World) :
    Calls Tryz.prog 66 #[.int .i64 c, .agg x.row.toArray] w fun e w' => e = .returned (.int .i64 (chkP c x)) ∧ Below w.heap.size w w' := by
  obtain ⟨⟨m0, m1⟩, ⟨d0, d1⟩, ⟨k0, k1⟩, ⟨a0, a1⟩⟩ := hx
  obtain ⟨c0, c1⟩ := hc
  have e1 : (c * 31 + x.month + 7 * x.debit + 13 * x.credit + x.amount).tmod 99991 = (c * 31 + x.month + 7 * x.debit + 13 * x.credit + x.amount) % 99991 := Int.tmod_eq_emod_of_nonneg (by omega)
  have Q := Lib.hid (show chkP c x = (c * 31 + x.month + 7 * x.debit + 13 * x.credit + x.amount) % 99991 from rfl)
  unfold Entry.row
  go_enter Tryz.func66, Tryz.ntmps66
  go_wp2
  go_ret
  exact ⟨by rw [Q.out]; rfl, (Below.refl _ _).alloc (Nat.le_refl _) _⟩

set_option maxHeartbeats 1000000 in
theorem spec_l22Check_any (c : Int) (x : Entry) (hc : 0 ≤ c ∧ c < 99991) (hx : EntryOk x) (w : World) :
    Calls Tryz.prog 60 #[.int .i64 c, .agg x.row.toArray] w fun e w' => e = .returned (.int .i64 (chkP c x)) ∧ Below w.heap.size w w' := by
  obtain ⟨⟨m0, m1⟩, ⟨d0, d1⟩, ⟨k0, k1⟩, ⟨a0, a1⟩⟩ := hx
  obtain ⟨c0, c1⟩ := hc
  have e1 : (c * 31 + x.month + 7 * x.debit + 13 * x.credit + x.amount).tmod 99991 = (c * 31 + x.month + 7 * x.debit + 13 * x.credit + x.amount) % 99991 := Int.tmod_eq_emod_of_nonneg (by omega)
  have Q := Lib.hid (show chkP c x = (c * 31 + x.month + 7 * x.debit + 13 * x.credit + x.amount) % 99991 from rfl)
  unfold Entry.row
  go_enter Tryz.func60, Tryz.ntmps60
  go_wp2
  go_ret
  exact ⟨by rw [Q.out]; rfl, (Below.refl _ _).alloc (Nat.le_refl _) _⟩

set_option maxRecDepth 100000 in
set_option maxHeartbeats 4000000 in
theorem impl_entryLine_any (x : Entry) (c : Int) (hc : 0 ≤ c ∧ c < 99991) (hx : EntryOk x) (w : World) (hT : Tab w) (hN : Names w) :
    Calls Tryz.prog 65 #[.agg x.row.toArray, .int .i64 c] w fun e w' => e = .returned (.string (S (lineL x c))) ∧ Below w.heap.size w w' := by
  unfold Entry.row
  have HB0 := Lib.hid (show Below w.heap.size w (w.alloc (.cells #[.int .i64 x.month, .int .i64 x.debit, .int .i64 x.credit, .int .i64 x.amount] 78)) from (Below.refl _ w).alloc (Nat.le_refl _) _)
  have HBK := Lib.hid (Blk.new w 78 #[.int .i64 x.month, .int .i64 x.debit, .int .i64 x.credit, .int .i64 x.amount])
  have HX := Lib.hid hx
  have h64 := Lib.hid (show In64 c by unfold In64; omega)
  have HIT := Lib.hid (itoa_pos hc.1)
  have HMT := Lib.hid (monthT_yes hx.m)
  have HYT := Lib.hid (moneyT_yes (n := x.amount) (by have := hx.a; omega))
  have HTab := Lib.hid hT; clear hT
  have HNam := Lib.hid hN; clear hN
  go_enter Tryz.func65, Tryz.ntmps65
  go_wp2
  have hzW : (w.alloc (.cells #[.int .i64 x.month, .int .i64 x.debit, .int .i64 x.credit, .int .i64 x.amount] 78)).heap.size = w.heap.size + 1 := by simp
  generalize (w.alloc (.cells #[.int .i64 x.month, .int .i64 x.debit, .int .i64 x.credit, .int .i64 x.amount] 78)) = W at HB0 HBK hzW ⊢
  have HTX := Lib.hid (fun X (q : Below w.heap.size w X) => HTab.out.past q)
  have HNX := Lib.hid (fun X (q : Below w.heap.size w X) => HNam.out.past q)
  have HS := Lib.hid (show ∀ w', Below W.heap.size W w' → Below W.heap.size W w' ∧ w'.cell? ⟨w.heap.size, 0, none⟩ = some (.int .i64 x.month) ∧ w'.cell? ⟨w.heap.size, 1, none⟩ = some (.int .i64 x.debit) ∧ w'.cell? ⟨w.heap.size, 2, none⟩ = some (.int .i64 x.credit) ∧ w'.cell? ⟨w.heap.size, 3, none⟩ = some (.int .i64 x.amount) from fun w' q => by
    have hb := HBK.out.below' q
    exact ⟨q, hb.cell 0, hb.cell 1, hb.cell 2, hb.cell 3⟩)
  have HDR := Lib.hid ((Below.refl W.heap.size W).drew)
  have HP := Lib.hid (fun w' (q : Below W.heap.size W w') (o : Obj) => q.alloc q.size o)
  have HLN := Lib.hid (line_len hx hc)
  go_region_held3 (fun w' => Below W.heap.size W w' ∧ w'.cell? ⟨w.heap.size, 0, none⟩ = some (.int .i64 x.month) ∧ w'.cell? ⟨w.heap.size, 1, none⟩ = some (.int .i64 x.debit) ∧ w'.cell? ⟨w.heap.size, 2, none⟩ = some (.int .i64 x.credit) ∧ w'.cell? ⟨w.heap.size, 3, none⟩ = some (.int .i64 x.amount)) (first | exact HS.out _ (HP.out _ hcc5 _) | exact HS.out _ hcc5 | exact HS.out _ hcc4 | exact HS.out _ hcc3 | exact HS.out _ hcc2 | exact HS.out _ hcc1 | exact HS.out _ HDR.out) (first | (go_at_call 131; refine (impl_MonthText_any x.month _ (HTX.out _ (HB0.out.trans (HDR.out.mono HB0.out.size)))).mono ?_; rw [HMT.out]; rintro e w1 ⟨rfl, hb1⟩; have hcc1 := HDR.out.trans (hb1.mono HDR.out.size)) | (go_at_call 132; refine (impl_AccountName_any x.debit _ (HNX.out _ (HB0.out.trans (hcc1.mono HB0.out.size)))).mono ?_; rintro e wq ⟨rfl, rfl⟩; have hcc2 := hcc1) | (go_at_call 132; refine (impl_AccountName_any x.credit _ (HNX.out _ (HB0.out.trans (hcc2.mono HB0.out.size)))).mono ?_; rintro e wq ⟨rfl, rfl⟩; have hcc3 := hcc2) | (go_at_call 133; refine (impl_MoneyText_any x.amount _ (HTX.out _ (HB0.out.trans (hcc3.mono HB0.out.size)))).mono ?_; rw [HYT.out]; rintro e w4 ⟨rfl, hb4⟩; have hcc4 := hcc3.trans (hb4.mono hcc3.size)) | (go_at_call 87; refine (impl_decimal_any c h64.out _ (HTX.out _ (HB0.out.trans (hcc4.mono HB0.out.size)))).mono ?_; rw [HIT.out]; rintro e w5 ⟨rfl, hb5⟩; have hcc5 := hcc4.trans (hb5.mono hcc4.size)))
  have HB5 := Lib.hid (HB0.out.trans ((HP.out _ hcc5 (.cells ([S (monthL x.month), accountName x.debit, accountName x.credit, S (moneyL x.amount), S (decL c)].map Value.string).toArray 9)).mono HB0.out.size))
  have HJ := Lib.hid (Blk.new w5 9 ([S (monthL x.month), accountName x.debit, accountName x.credit, S (moneyL x.amount), S (decL c)].map Value.string).toArray)
  have hz5 : (w5.alloc (.cells ([S (monthL x.month), accountName x.debit, accountName x.credit, S (moneyL x.amount), S (decL c)].map Value.string).toArray 9)).heap.size = w5.heap.size + 1 := by simp
  clear HS HP HDR HTX HNX
  go_wp2_with fail
  generalize hW6 : w5.alloc _ = W6
  change w5.alloc (.cells ([S (monthL x.month), accountName x.debit, accountName x.credit, S (moneyL x.amount), S (decL c)].map Value.string).toArray 9) = W6 at hW6
  rw [hW6] at HB5 HJ hz5
  clear hW6
  have hjl : Lib.join ([S (monthL x.month), accountName x.debit, accountName x.credit, S (moneyL x.amount), S (decL c)].map (·.data.toList)) (⟨#[32]⟩ : ByteArray).data.toList = lineL x c := by
    simp only [List.map_cons, List.map_nil, S_list, Lib.join, List.intercalate, List.intersperse, List.flatten_cons, List.flatten_nil, lineL, nameT, List.append_assoc, List.append_nil]
  refine (Tryz.strings_Join w5.heap.size 0 5 [S (monthL x.month), accountName x.debit, accountName x.credit, S (moneyL x.amount), S (decL c)] ⟨#[32]⟩ W6 (fun j y hy => by
    rw [Nat.zero_add, HJ.out.cell]
    rw [List.getElem?_toArray, List.getElem?_map, hy]; rfl) (by omega) (by simp) (by simp) (by rw [hjl]; have := HLN.out; omega)).mono ?_
  rw [hjl]
  rintro e w7 ⟨rfl, hb7⟩
  have HB7 := Lib.hid (HB5.out.trans (hb7.mono HB5.out.size)); clear hb7
  go_wp2
  go_ret
  exact ⟨rfl, HB7.out⟩
end Go.Proofs.YtlbllonpodckgaaGreatDoor
