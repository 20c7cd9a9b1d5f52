/- The law on ledgers: all balances add up to 0, a booked entry is booked, a reversed entry takes its effect back. No condition. -/
import Derived.Test.YtoabhnobgdjgkaaDrawL2
import Derived.Test.YtoabhnobgdjgkaaDrawLaw
import Derived.Test.YtoabhnobgdjgkaaTail
import Derived.Test.YtoabhnobgdjgkaaHeld
import Derived.Test.YtoabhnobgdjgkaaLikesE
import Derived.Test.YtoabhnobgdjgkaaLedgQ
import Derived.Test.YtoabhnobgdjgkaaLedg3
import Derived.Test.YtoabhnobgdjgkaaBook2
import Derived.Test.YtoabhnobgdjgkaaStInt
import Derived.Test.YtoabhnobgdjgkaaLaw
import Derived.Test.YtoabhnobgdjgkaaBase2
namespace Go.Proofs.Ytoabhnobgdjgkaa
open Go.ChangeShapes Go.WideShapes Go.ChangeAt Go.RowKit Go.Deep
namespace fnLedgers
set_option maxRecDepth 100000 in
set_option maxHeartbeats 8000000 in
theorem walk (K : Code) (hlen : K.bs.length = K.n) (hbyte : ∀ x ∈ K.bs, 0 ≤ x ∧ x ≤ 255) (hmax : K.n ≤ 9223372036854775807) (w : World) (hX : Rd w w.heap.size K.A 1 (byteRows K.bs)) :
    Calls Try.prog 5 #[.slice K.A K.n K.c] w fun e w' => e = .returned (.bool true) ∧ Below w.heap.size w w' := by
  by_cases hbig : 4096 < K.n
  · have hd : decide (4096 < K.n) = true := by simpa using hbig
    clear hX hbyte hlen
    go_enter Try.func5, Try.ntmps5
    go_wp2_with (go_at_call 22; refine (laws_big_any K.A K.n K.c _ (by omega)).mono ?_; rw [hd]; rintro e w' ⟨rfl, rfl⟩)
    go_ret
    exact ⟨rfl, Below.refl _ _⟩
  have hd : decide (4096 < K.n) = false := by simpa using hbig
  have hK : K.Ok := ⟨hlen, by omega, hbyte⟩
  have HH := Lib.hid ((Held.nil w).snoc hX)
  have HB := Lib.hid (Below.refl w.heap.size w)
  clear hX hbyte hlen hbig
  go_enter Try.func5, Try.ntmps5
  go_wp2_with (go_at_call 22; refine (laws_big_any K.A K.n K.c _ (by omega)).mono ?_; rw [hd]; rintro e w' ⟨rfl, rfl⟩)
  refine (spec_DrawTrialBalance_any K hK _ (HH.out.get 0 rfl)).mono ?_
  rintro e w1 ⟨A0, n0, c0, rfl, hE, hn0, hb⟩
  obtain ⟨xs0, hl0, hR, hf0⟩ := entries_rd hE
  replace HB := Lib.hid (below_all HB.out hb)
  replace HH := Lib.hid ((HH.out.past hb).snoc hR)
  clear hb
  clear hE hR
  go_wp2_with fail
  refine (impl_TrialBalance_any A0 n0 c0 xs0 _ hl0 (by omega) (HH.out.get 1 rfl) hf0).mono ?_
  rintro e w2 ⟨A1, n1, c1, rfl, hR, hb⟩
  have hl1 : ((trialP xs0).1).length = n1 := by have := hR.len; simpa [intRows, entryRows] using this
  have hc1 : n1 ≤ c1 := res_cap hR
  replace HB := Lib.hid (below_all HB.out hb)
  replace HH := Lib.hid ((HH.out.past hb).snoc hR.rd)
  clear hb
  clear hR
  go_wp2_with fail
  refine (spec_TrialBalance_any A0 n0 c0 xs0 _ hl0 (by omega) (HH.out.get 1 rfl) hf0).mono ?_
  rintro e w3 ⟨A2, n2, c2, rfl, hR, hb⟩
  have hl2 : ((trialP xs0).1).length = n2 := by have := hR.len; simpa [intRows, entryRows] using this
  have hc2 : n2 ≤ c2 := res_cap hR
  replace HB := Lib.hid (below_all HB.out hb)
  replace HH := Lib.hid ((HH.out.past hb).snoc hR.rd)
  clear hb
  clear hR
  go_wp2_with fail
  refine (spec_DrawAccountBalance_any K hK _ (HH.out.get 0 rfl)).mono ?_
  rintro e w4 ⟨A3, n3, c3, a3, u3, rfl, hE, hn3, hi3, hb⟩
  obtain ⟨xs3, hl3, hR, hf3⟩ := entries_rd hE
  replace HB := Lib.hid (below_all HB.out hb)
  replace HH := Lib.hid ((HH.out.past hb).snoc hR)
  clear hb
  clear hE hR
  go_wp2_with fail
  refine (impl_AccountBalance_any A3 n3 c3 xs3 a3 u3 _ hl3 (by omega) (HH.out.get 4 rfl) hf3 hi3.1 hi3.2).mono ?_
  rintro e w5 ⟨rfl, hb⟩
  replace HB := Lib.hid (below_all HB.out hb)
  replace HH := Lib.hid (HH.out.past hb)
  clear hb
  go_wp2_with fail
  refine (spec_AccountBalance_any A3 n3 c3 xs3 a3 u3 _ hl3 (by omega) (HH.out.get 4 rfl) hf3 hi3.1 hi3.2).mono ?_
  rintro e w6 ⟨rfl, hb⟩
  replace HB := Lib.hid (below_all HB.out hb)
  replace HH := Lib.hid (HH.out.past hb)
  clear hb
  go_wp2_with fail
  refine (spec_DrawReverseEntry_any K hK _ (HH.out.get 0 rfl)).mono ?_
  rintro e w7 ⟨A4, n4, c4, i4, m4, rfl, hE, hn4, hi4, hb⟩
  obtain ⟨xs4, hl4, hR, hf4⟩ := entries_rd hE
  replace HB := Lib.hid (below_all HB.out hb)
  replace HH := Lib.hid ((HH.out.past hb).snoc hR)
  clear hb
  clear hE hR
  go_wp2_with fail
  refine (impl_ReverseEntry_any A4 n4 c4 xs4 i4 m4 _ hl4 (by omega) (HH.out.get 5 rfl) hf4 hi4.1 hi4.2).mono ?_
  rintro e w8 ⟨A5, n5, c5, rfl, hR, hb⟩
  have hl5 : ((reverseP xs4 i4 m4).1).length = n5 := by have := hR.len; simpa [intRows, entryRows] using this
  have hc5 : n5 ≤ c5 := res_cap hR
  replace HB := Lib.hid (below_all HB.out hb)
  replace HH := Lib.hid ((HH.out.past hb).snoc hR.rd)
  clear hb
  clear hR
  go_wp2_with fail
  refine (spec_ReverseEntry_any A4 n4 c4 xs4 i4 m4 _ hl4 (by omega) (HH.out.get 5 rfl) hf4 hi4.1 hi4.2).mono ?_
  rintro e w9 ⟨A6, n6, c6, rfl, hR, hb⟩
  have hl6 : ((reverseP xs4 i4 m4).1).length = n6 := by have := hR.len; simpa [intRows, entryRows] using this
  have hc6 : n6 ≤ c6 := res_cap hR
  replace HB := Lib.hid (below_all HB.out hb)
  replace HH := Lib.hid ((HH.out.past hb).snoc hR.rd)
  clear hb
  clear hR
  go_wp2_with fail
  refine (spec_DrawBookEntry_any K hK _ (HH.out.get 0 rfl)).mono ?_
  rintro e w10 ⟨A7, n7, c7, e7, rfl, hE, hn7, hi7, hb⟩
  obtain ⟨xs7, hl7, hR, hf7⟩ := entries_rd hE
  replace HB := Lib.hid (below_all HB.out hb)
  replace HH := Lib.hid ((HH.out.past hb).snoc hR)
  clear hb
  clear hE hR
  unfold Entry.row
  go_wp2_with fail
  have hb := (Below.refl w10.heap.size w10).alloc (Nat.le_refl _) (.cells #[.int .i64 e7.month, .int .i64 e7.debit, .int .i64 e7.credit, .int .i64 e7.amount] 56)
  replace HB := Lib.hid (below_all HB.out hb)
  replace HH := Lib.hid ((HH.out.past hb).snoc (Blk.rd (r := [.int .i64 e7.month, .int .i64 e7.debit, .int .i64 e7.credit, .int .i64 e7.amount]) (Blk.new w10 56 #[.int .i64 e7.month, .int .i64 e7.debit, .int .i64 e7.credit, .int .i64 e7.amount])))
  clear hb
  refine (impl_BookEntry_any A7 n7 c7 xs7 e7 _ hl7 (by omega) (HH.out.get 8 rfl) hf7 hi7).mono ?_
  rintro e w11 ⟨A8, n8, c8, rfl, hR, hb⟩
  have hl8 : ((bookP xs7 e7).1).length = n8 := by have := hR.len; simpa [intRows, entryRows] using this
  have hc8 : n8 ≤ c8 := res_cap hR
  replace HB := Lib.hid (below_all HB.out hb)
  replace HH := Lib.hid ((HH.out.past hb).snoc hR.rd)
  clear hb
  clear hR
  have HBX := Lib.hid (Rd.box (HH.out.get 9 rfl))
  go_wp2_with (refine wpList_load_agg rfl 56 _ rfl ⟨w10.heap.size, 0, none⟩ rfl [.int .i64 e7.month, .int .i64 e7.debit, .int .i64 e7.credit, .int .i64 e7.amount] HBX.out _ Try.underlying56 rfl Entry.size ?_)
  clear HBX
  refine (spec_BookEntry_any A7 n7 c7 xs7 e7 _ hl7 (by omega) (HH.out.get 8 rfl) hf7 hi7).mono ?_
  rintro e w12 ⟨A9, n9, c9, rfl, hR, hb⟩
  have hl9 : ((bookP xs7 e7).1).length = n9 := by have := hR.len; simpa [intRows, entryRows] using this
  have hc9 : n9 ≤ c9 := res_cap hR
  replace HB := Lib.hid (below_all HB.out hb)
  replace HH := Lib.hid ((HH.out.past hb).snoc hR.rd)
  clear hb
  clear hR
  obtain rfl : n1 = n2 := by rw [← hl1, ← hl2]
  obtain rfl : n5 = n6 := by rw [← hl5, ← hl6]
  obtain rfl : n8 = n9 := by rw [← hl8, ← hl9]
  have hs1 : n1 ≤ 1048576 := by rw [← hl1]; exact trialBalance_small0 (n := n0) xs0 (by omega) hl0 hf0
  have hs5 : n5 ≤ 1048576 := by rw [← hl5]; exact reverseEntry_small0 (n := n4) xs4 (by omega) hl4 hf4 i4 m4
  have hs8 : n8 ≤ 1048576 := by rw [← hl8]; exact bookEntry_small0 (n := n7) xs7 (by omega) hl7 hf7 e7
  have hq : ((trialP xs0).2 == 0) = ledgerB xs0 := trial_code xs0
  go_wp2_with fail
  refine (likeInts_any A1 n1 c1 A2 c2 (trialP xs0).1 _ hl1 hs1 (HH.out.get 2 rfl) (HH.out.get 3 rfl)).mono ?_
  rintro e w13 ⟨rfl, hb⟩
  replace HB := Lib.hid (below_all HB.out hb)
  replace HH := Lib.hid (HH.out.past hb)
  clear hb
  go_wp2_with fail
  refine (likeEntries9_any A5 n5 c5 A6 c6 (reverseP xs4 i4 m4).1 _ hl5 hs5 (HH.out.get 6 rfl) (HH.out.get 7 rfl)).mono ?_
  rintro e w14 ⟨rfl, hb⟩
  replace HB := Lib.hid (below_all HB.out hb)
  replace HH := Lib.hid (HH.out.past hb)
  clear hb
  go_wp2_with fail
  refine (likeEntries9_any A8 n8 c8 A9 c9 (bookP xs7 e7).1 _ hl8 hs8 (HH.out.get 10 rfl) (HH.out.get 11 rfl)).mono ?_
  rintro e w15 ⟨rfl, hb⟩
  replace HB := Lib.hid (below_all HB.out hb)
  replace HH := Lib.hid (HH.out.past hb)
  clear hb
  go_wp2_with fail
  refine (impl_IsLedger_any A0 n0 c0 xs0 _ hl0 (by omega) (HH.out.get 1 rfl) hf0).mono ?_
  rintro e w16 ⟨rfl, hb⟩
  replace HB := Lib.hid (below_all HB.out hb)
  replace HH := Lib.hid (HH.out.past hb)
  clear hb
  go_wp2_with fail
  clear hd hmax hK hn0 hl0 hf0 hl2 hn3 hi3 hl3 hf3 hl6 hc1 hc2 hc5 hc6 hl9 hc9 hq
  generalize w16 = wz at HB HH ⊢
  cases hbk : ((bookP xs7 e7).2 == 0)
  · skip
    refine wp_region_past (by kernel_rfl) (by kernel_rfl) ?_
    repeat (go_big_quiet_step (fail))
    refine wpQuiet_nil ?_
    rintro _ ⟨y, rfl⟩
    replace HB := Lib.hid (below_all HB.out y.2)
    replace HH := Lib.hid (HH.out.past y.2)
    cases hrv : ((reverseP xs4 i4 m4).2 == 0)
    · skip
      cases hlb : ledgerB xs0
      · have e1 := trial_no hlb
        have e2 : (trialP xs0).2 = 1 := by rw [e1]
        clear e1
        go_wp2
        go_ret
        exact ⟨rfl, HB.out⟩
      · obtain ⟨e1, e2, e3, e4⟩ := trial_yes hlb
        have HS := Lib.hid (SumOk.of (n := 10) (by decide) (by decide) (by omega) e4 (by decide))
        have HE3 := Lib.hid e3
        clear e3 e4 e2
        go_wp2_with fail
        refine (laws_sum_any A1 n1 c1 (trialP xs0).1 _ hl1 hs1 (HH.out.get 2 rfl) HS.out).mono ?_
        rw [HE3.out]
        rintro e w' ⟨rfl, rfl⟩
        go_wp2
        go_ret
        exact ⟨rfl, HB.out⟩
    · obtain ⟨k4, x4, rfl, hx4, hL4, hr1, hr2⟩ := reverse_good (show (reverseP xs4 i4 m4).2 = 0 by simpa using hrv)
      rw [hr1] at HH hl5
      have hv4 : entryB x4 = true := ledger_entry hL4 (List.mem_of_getElem? hx4)
      have hvt : entryB (turnE x4 m4) = true := ledger_entry hr2 (by simp)
      have hf5 : ∀ x ∈ xs4 ++ [turnE x4 m4], x.fits := by
        intro x hx
        rcases List.mem_append.1 hx with h | h
        · exact hf4 x h
        · simp only [List.mem_singleton] at h; rw [h]; exact turn_fits (hf4 x4 (List.mem_of_getElem? hx4)) hi4.2
      have HF5 := Lib.hid hf5; clear hf5
      have HR2 := Lib.hid hr2; clear hr2
      have HX4 := Lib.hid hx4; clear hx4 hr1
      obtain ⟨e1, e2, _, _⟩ := trial_yes hL4
      obtain ⟨e3, e4, _, _⟩ := trial_yes HR2.out
      go_wp2_with fail
      refine (impl_TrialBalance_any A4 n4 c4 xs4 _ hl4 (by omega) (HH.out.get 5 rfl) hf4).mono ?_
      rw [e1]
      rintro e v1 ⟨B1, p1, q1, rfl, hR, hb⟩
      have hp1 : p1 = 10 := by have := hR.len; rw [intRows_length, e2] at this; exact this.symm
      subst hp1
      replace HB := Lib.hid (below_all HB.out hb)
      replace HH := Lib.hid ((HH.out.past hb).snoc hR.rd)
      clear hb hR
      go_wp2_with fail
      refine (impl_TrialBalance_any A5 n5 c5 (xs4 ++ [turnE x4 m4]) _ hl5 hs5 (HH.out.get 6 rfl) HF5.out).mono ?_
      rw [e3]
      rintro e v2 ⟨B2, p2, q2, rfl, hR, hb⟩
      have hp2 : p2 = 10 := by have := hR.len; rw [intRows_length, e4] at this; exact this.symm
      subst hp2
      replace HB := Lib.hid (below_all HB.out hb)
      replace HH := Lib.hid ((HH.out.past hb).snoc hR.rd)
      clear hb hR e1 e2 e3 e4
      go_wp2_with fail
      go_loopw [32] (fun i wr => ∃ a : Nat, a ≤ 10 ∧ i = .int .i64 a ∧ Below v2.heap.size v2 wr) (fun i _ => 10 - (intOf i).toNat)
      case atStart => exact ⟨0, by omega, rfl, Below.refl _ _⟩
      case round =>
        obtain ⟨a, ha, rfl, hb⟩ := hrel
        replace HB := Lib.hid (below_all HB.out hb)
        replace HH := Lib.hid (HH.out.past hb)
        by_cases hlt : a < 10
        · obtain ⟨ad4, rfl, had4, _, hc4⟩ := ((HH.out.get 5 rfl)).at' (entryRows_get HX4.out)
          obtain ⟨hcm, hcd, hcc, hca⟩ := Entry.cells hc4
          obtain ⟨ad1, rfl, had1, hc1⟩ := ((HH.out.get 12 rfl)).int_at (trial_get hL4 hlt)
          obtain ⟨ad2, rfl, had2, hc2⟩ := ((HH.out.get 13 rfl)).int_at (trial_get HR2.out hlt)
          have hb1 := bal_bound hL4 (a : Int) 36000
          have hb2 := bal_bound HR2.out (a : Int) 36000
          have hrb := reverse_bal (xs := xs4) hv4 hvt (a : Int)
          obtain ⟨_, _, _, hne, hamt⟩ := entry_facts hv4
          have hki : (k4 : Int) < (n4 : Int) := by have := (List.getElem?_eq_some_iff.1 HX4.out).1; omega
          have hai : (a : Int) < 10 := by omega
          generalize balP xs4 (a : Int) 36000 = u1 at hb1 hrb hc1
          generalize balP (xs4 ++ [turnE x4 m4]) (a : Int) 36000 = u2 at hb2 hrb hc2
          have d0 := fun y : Past wr => Past.cell hc1 y
          have d1 := fun y : Past wr => Past.cell hc2 y
          obtain ⟨b10, b11⟩ := hb1
          obtain ⟨b20, b21⟩ := hb2
          obtain ⟨am0, am1⟩ := hamt
          clear hc1 hc2 hc4
          by_cases hD : x4.debit = (a : Int)
          · have hC : ¬ x4.credit = (a : Int) := fun h => hne (hD.trans h.symm)
            have hbD : (x4.debit == (a : Int)) = true := by simp [hD]
            have hbC : (x4.credit == (a : Int)) = false := by simp [hC]
            have hwr : IntKind.i64.wrap (u2 - u1) = -x4.amount := by rw [IntWalk.i64_in _ (by omega)]; rw [if_neg hC, if_pos hD] at hrb; exact hrb
            clear hD hC hne
            clear hrb
            go_wp2
            refine wp_region_past (by kernel_rfl) (by kernel_rfl) ?_
            repeat (go_big_quiet_step (fail))
            refine wpQuiet_nil ?_
            rintro _ ⟨y, rfl⟩
            go_wp2
            go_roundw
            case rel => exact ⟨a + 1, by omega, by go_num, hb.trans (y.2.mono hb.size)⟩
            case measure => simp [intOf]; omega
          by_cases hC : x4.credit = (a : Int)
          · skip
            have hbD : (x4.debit == (a : Int)) = false := by simp [hD]
            have hbC : (x4.credit == (a : Int)) = true := by simp [hC]
            have hwr : IntKind.i64.wrap (u2 - u1) = x4.amount := by rw [IntWalk.i64_in _ (by omega)]; rw [if_pos hC] at hrb; exact hrb
            clear hD hC hne
            clear hrb
            go_wp2
            refine wp_region_past (by kernel_rfl) (by kernel_rfl) ?_
            repeat (go_big_quiet_step (fail))
            refine wpQuiet_nil ?_
            rintro _ ⟨y, rfl⟩
            go_wp2
            go_roundw
            case rel => exact ⟨a + 1, by omega, by go_num, hb.trans (y.2.mono hb.size)⟩
            case measure => simp [intOf]; omega
          · skip
            have hbD : (x4.debit == (a : Int)) = false := by simp [hD]
            have hbC : (x4.credit == (a : Int)) = false := by simp [hC]
            have hwr : IntKind.i64.wrap (u2 - u1) = 0 := by rw [IntWalk.i64_in _ (by omega)]; rw [if_neg hC, if_neg hD] at hrb; exact hrb
            clear hD hC hne
            clear hrb
            go_wp2
            refine wp_region_past (by kernel_rfl) (by kernel_rfl) ?_
            repeat (go_big_quiet_step (fail))
            refine wpQuiet_nil ?_
            rintro _ ⟨y, rfl⟩
            go_wp2
            go_roundw
            case rel => exact ⟨a + 1, by omega, by go_num, hb.trans (y.2.mono hb.size)⟩
            case measure => simp [intOf]; omega
        · have hai : ¬ (a : Int) < 10 := by omega
          cases hlb : ledgerB xs0
          · have e1 := trial_no hlb
            have e2 : (trialP xs0).2 = 1 := by rw [e1]
            clear e1
            go_wp2
            go_ret
            exact ⟨rfl, HB.out⟩
          · obtain ⟨e1, e2, e3, e4⟩ := trial_yes hlb
            have HS := Lib.hid (SumOk.of (n := 10) (by decide) (by decide) (by omega) e4 (by decide))
            have HE3 := Lib.hid e3
            clear e3 e4 e2
            go_wp2_with fail
            refine (laws_sum_any A1 n1 c1 (trialP xs0).1 _ hl1 hs1 (HH.out.get 2 rfl) HS.out).mono ?_
            rw [HE3.out]
            rintro e w' ⟨rfl, rfl⟩
            go_wp2
            go_ret
            exact ⟨rfl, HB.out⟩
  · skip
    obtain ⟨hL7, hk1, hk2⟩ := book_good (show (bookP xs7 e7).2 = 0 by simpa using hbk)
    rw [hk1] at HH hl8
    have hk8 : n8 = n7 + 1 := by rw [← hl8, ← hl7]; simp
    have hne8 : ((n8 : Int) != (n7 : Int) + 1) = false := by simp; omega
    obtain ⟨ad8, rfl, had8, _, hc8⟩ := ((HH.out.get 10 rfl)).at' (entryRows_get (k := n7) (x := e7) (by rw [← hl7]; simp))
    have hcK := Lib.hid (Past.cells' hc8)
    have hcX := Lib.hid (Past.cells' (Rd.box (HH.out.get 9 rfl)))
    have HRK := Lib.hid (HH.out.get 10 rfl)
    have HRT := Lib.hid (show Rd wz wz.heap.size (some ad8) 4 (entryRows xs7) from by
      have h := ((HH.out.get 10 rfl)).take n7
      have e : (entryRows (xs7 ++ [e7])).take n7 = entryRows xs7 := by rw [entryRows_snoc, List.take_append_of_le_length (by rw [entryRows_length, hl7]; exact Nat.le_refl _), List.take_of_length_le (by rw [entryRows_length, hl7]; exact Nat.le_refl _)]
      rw [e] at h; exact h)
    have HR7 := Lib.hid (HH.out.get 8 rfl)
    have hf8 : ∀ x ∈ xs7 ++ [e7], x.fits := by
      intro x hx
      rcases List.mem_append.1 hx with h | h
      · exact hf7 x h
      · simp only [List.mem_singleton] at h; rw [h]; exact hi7
    have HF8 := Lib.hid hf8; clear hf8
    have HK2 := Lib.hid hk2; clear hk2 hk1 hc8
    have h78 : (n7 : Int) < (n8 : Int) := by omega
    have h7c : (n7 : Int) ≤ (c8 : Int) := by omega
    have h7c' : n7 ≤ c8 := by omega
    have HK8 := Lib.hid hk8; clear hk8
    unfold Entry.row at hcK
    refine wp_region_past (by kernel_rfl) (by kernel_rfl) ?_
    repeat (first | (go_big_quiet_want; (first | (first | (refine quiet_load_agg 56 _ rfl (ad8.add (n7 * 4)) rfl [.int .i64 e7.month, .int .i64 e7.debit, .int .i64 e7.credit, .int .i64 e7.amount] hcK.out _ Try.underlying56 rfl Entry.size ?_) | (refine quiet_load_agg 56 _ rfl ⟨w10.heap.size, 0, none⟩ rfl [.int .i64 e7.month, .int .i64 e7.debit, .int .i64 e7.credit, .int .i64 e7.amount] hcX.out _ Try.underlying56 rfl Entry.size ?_))); go_simp; go_big_quiet_on) | go_big_quiet_step ((first | (go_at_call 37; exact past_call ((impl_IsLedger_any (some ad8) n8 c8 (xs7 ++ [e7]) _ hl8 hs8 (HRK.out.past (Subtype.property _)) HF8.out).mono (by rw [HK2.out]; exact fun _ _ h => h))) | (go_at_call 36; exact past_call (likeEntries9_any (some ad8) n7 c8 A7 c7 xs7 _ hl7 (by omega) (HRT.out.past (Subtype.property _)) (HR7.out.past (Subtype.property _)))))))
    refine wpQuiet_nil ?_
    rintro _ ⟨y, rfl⟩
    replace HB := Lib.hid (below_all HB.out y.2)
    replace HH := Lib.hid (HH.out.past y.2)
    clear hne8 h78 h7c h7c'
    cases hrv : ((reverseP xs4 i4 m4).2 == 0)
    · skip
      cases hlb : ledgerB xs0
      · have e1 := trial_no hlb
        have e2 : (trialP xs0).2 = 1 := by rw [e1]
        clear e1
        go_wp2
        go_ret
        exact ⟨rfl, HB.out⟩
      · obtain ⟨e1, e2, e3, e4⟩ := trial_yes hlb
        have HS := Lib.hid (SumOk.of (n := 10) (by decide) (by decide) (by omega) e4 (by decide))
        have HE3 := Lib.hid e3
        clear e3 e4 e2
        go_wp2_with fail
        refine (laws_sum_any A1 n1 c1 (trialP xs0).1 _ hl1 hs1 (HH.out.get 2 rfl) HS.out).mono ?_
        rw [HE3.out]
        rintro e w' ⟨rfl, rfl⟩
        go_wp2
        go_ret
        exact ⟨rfl, HB.out⟩
    · obtain ⟨k4, x4, rfl, hx4, hL4, hr1, hr2⟩ := reverse_good (show (reverseP xs4 i4 m4).2 = 0 by simpa using hrv)
      rw [hr1] at HH hl5
      have hv4 : entryB x4 = true := ledger_entry hL4 (List.mem_of_getElem? hx4)
      have hvt : entryB (turnE x4 m4) = true := ledger_entry hr2 (by simp)
      have hf5 : ∀ x ∈ xs4 ++ [turnE x4 m4], x.fits := by
        intro x hx
        rcases List.mem_append.1 hx with h | h
        · exact hf4 x h
        · simp only [List.mem_singleton] at h; rw [h]; exact turn_fits (hf4 x4 (List.mem_of_getElem? hx4)) hi4.2
      have HF5 := Lib.hid hf5; clear hf5
      have HR2 := Lib.hid hr2; clear hr2
      have HX4 := Lib.hid hx4; clear hx4 hr1
      obtain ⟨e1, e2, _, _⟩ := trial_yes hL4
      obtain ⟨e3, e4, _, _⟩ := trial_yes HR2.out
      go_wp2_with fail
      refine (impl_TrialBalance_any A4 n4 c4 xs4 _ hl4 (by omega) (HH.out.get 5 rfl) hf4).mono ?_
      rw [e1]
      rintro e v1 ⟨B1, p1, q1, rfl, hR, hb⟩
      have hp1 : p1 = 10 := by have := hR.len; rw [intRows_length, e2] at this; exact this.symm
      subst hp1
      replace HB := Lib.hid (below_all HB.out hb)
      replace HH := Lib.hid ((HH.out.past hb).snoc hR.rd)
      clear hb hR
      go_wp2_with fail
      refine (impl_TrialBalance_any A5 n5 c5 (xs4 ++ [turnE x4 m4]) _ hl5 hs5 (HH.out.get 6 rfl) HF5.out).mono ?_
      rw [e3]
      rintro e v2 ⟨B2, p2, q2, rfl, hR, hb⟩
      have hp2 : p2 = 10 := by have := hR.len; rw [intRows_length, e4] at this; exact this.symm
      subst hp2
      replace HB := Lib.hid (below_all HB.out hb)
      replace HH := Lib.hid ((HH.out.past hb).snoc hR.rd)
      clear hb hR e1 e2 e3 e4
      go_wp2_with fail
      go_loopw [32] (fun i wr => ∃ a : Nat, a ≤ 10 ∧ i = .int .i64 a ∧ Below v2.heap.size v2 wr) (fun i _ => 10 - (intOf i).toNat)
      case atStart => exact ⟨0, by omega, rfl, Below.refl _ _⟩
      case round =>
        obtain ⟨a, ha, rfl, hb⟩ := hrel
        replace HB := Lib.hid (below_all HB.out hb)
        replace HH := Lib.hid (HH.out.past hb)
        by_cases hlt : a < 10
        · obtain ⟨ad4, rfl, had4, _, hc4⟩ := ((HH.out.get 5 rfl)).at' (entryRows_get HX4.out)
          obtain ⟨hcm, hcd, hcc, hca⟩ := Entry.cells hc4
          obtain ⟨ad1, rfl, had1, hc1⟩ := ((HH.out.get 12 rfl)).int_at (trial_get hL4 hlt)
          obtain ⟨ad2, rfl, had2, hc2⟩ := ((HH.out.get 13 rfl)).int_at (trial_get HR2.out hlt)
          have hb1 := bal_bound hL4 (a : Int) 36000
          have hb2 := bal_bound HR2.out (a : Int) 36000
          have hrb := reverse_bal (xs := xs4) hv4 hvt (a : Int)
          obtain ⟨_, _, _, hne, hamt⟩ := entry_facts hv4
          have hki : (k4 : Int) < (n4 : Int) := by have := (List.getElem?_eq_some_iff.1 HX4.out).1; omega
          have hai : (a : Int) < 10 := by omega
          generalize balP xs4 (a : Int) 36000 = u1 at hb1 hrb hc1
          generalize balP (xs4 ++ [turnE x4 m4]) (a : Int) 36000 = u2 at hb2 hrb hc2
          have d0 := fun y : Past wr => Past.cell hc1 y
          have d1 := fun y : Past wr => Past.cell hc2 y
          obtain ⟨b10, b11⟩ := hb1
          obtain ⟨b20, b21⟩ := hb2
          obtain ⟨am0, am1⟩ := hamt
          clear hc1 hc2 hc4
          by_cases hD : x4.debit = (a : Int)
          · have hC : ¬ x4.credit = (a : Int) := fun h => hne (hD.trans h.symm)
            have hbD : (x4.debit == (a : Int)) = true := by simp [hD]
            have hbC : (x4.credit == (a : Int)) = false := by simp [hC]
            have hwr : IntKind.i64.wrap (u2 - u1) = -x4.amount := by rw [IntWalk.i64_in _ (by omega)]; rw [if_neg hC, if_pos hD] at hrb; exact hrb
            clear hD hC hne
            clear hrb
            go_wp2
            refine wp_region_past (by kernel_rfl) (by kernel_rfl) ?_
            repeat (go_big_quiet_step (fail))
            refine wpQuiet_nil ?_
            rintro _ ⟨y, rfl⟩
            go_wp2
            go_roundw
            case rel => exact ⟨a + 1, by omega, by go_num, hb.trans (y.2.mono hb.size)⟩
            case measure => simp [intOf]; omega
          by_cases hC : x4.credit = (a : Int)
          · skip
            have hbD : (x4.debit == (a : Int)) = false := by simp [hD]
            have hbC : (x4.credit == (a : Int)) = true := by simp [hC]
            have hwr : IntKind.i64.wrap (u2 - u1) = x4.amount := by rw [IntWalk.i64_in _ (by omega)]; rw [if_pos hC] at hrb; exact hrb
            clear hD hC hne
            clear hrb
            go_wp2
            refine wp_region_past (by kernel_rfl) (by kernel_rfl) ?_
            repeat (go_big_quiet_step (fail))
            refine wpQuiet_nil ?_
            rintro _ ⟨y, rfl⟩
            go_wp2
            go_roundw
            case rel => exact ⟨a + 1, by omega, by go_num, hb.trans (y.2.mono hb.size)⟩
            case measure => simp [intOf]; omega
          · skip
            have hbD : (x4.debit == (a : Int)) = false := by simp [hD]
            have hbC : (x4.credit == (a : Int)) = false := by simp [hC]
            have hwr : IntKind.i64.wrap (u2 - u1) = 0 := by rw [IntWalk.i64_in _ (by omega)]; rw [if_neg hC, if_neg hD] at hrb; exact hrb
            clear hD hC hne
            clear hrb
            go_wp2
            refine wp_region_past (by kernel_rfl) (by kernel_rfl) ?_
            repeat (go_big_quiet_step (fail))
            refine wpQuiet_nil ?_
            rintro _ ⟨y, rfl⟩
            go_wp2
            go_roundw
            case rel => exact ⟨a + 1, by omega, by go_num, hb.trans (y.2.mono hb.size)⟩
            case measure => simp [intOf]; omega
        · have hai : ¬ (a : Int) < 10 := by omega
          cases hlb : ledgerB xs0
          · have e1 := trial_no hlb
            have e2 : (trialP xs0).2 = 1 := by rw [e1]
            clear e1
            go_wp2
            go_ret
            exact ⟨rfl, HB.out⟩
          · obtain ⟨e1, e2, e3, e4⟩ := trial_yes hlb
            have HS := Lib.hid (SumOk.of (n := 10) (by decide) (by decide) (by omega) e4 (by decide))
            have HE3 := Lib.hid e3
            clear e3 e4 e2
            go_wp2_with fail
            refine (laws_sum_any A1 n1 c1 (trialP xs0).1 _ hl1 hs1 (HH.out.get 2 rfl) HS.out).mono ?_
            rw [HE3.out]
            rintro e w' ⟨rfl, rfl⟩
            go_wp2
            go_ret
            exact ⟨rfl, HB.out⟩
set_option maxRecDepth 100000 in
theorem lifted (os : Os) (started : os.Started) (H : Type) (enc : TypeId × Value → H) :
    ReturnsInHanded {} Try.checked os 5 .any (Rows.fnLedgersSpec.pre6 enc Try.prog Try.f5 Rows.fnLedgersRow.domain false) (Rows.fnLedgersSpec.post enc Try.prog Try.f5 false true false false) := by
  refine law_lifted os started H enc 4 (by kernel_rfl) Try.func5
    (ChangeSpec.witness6 (enc := enc) (C := Try.checked) false ⟨#[], #[.slice none 0 0], []⟩ 8 (by kernel_rfl) (by kernel_rfl) (by kernel_rfl) (by kernel_rfl)) rfl rfl Try.underlying4
    (by rw [Try.params5]; simp only [List.forall_mem_cons]; exact ⟨⟨by kernel_rfl, of_decide_eq_true (by kernel_rfl)⟩, by simp⟩) (fun ds hl => by
      match ds, hl with
      | [d0], _ => rfl) ?_
  intro W base args ds p hval hA
  rw [Try.params5] at hA hval
  obtain ⟨v0, vs0, d0, ds0, p0, q0, hargs, rfl, rfl, h0, rr0⟩ := trodAll_cons hA
  obtain ⟨rfl, rfl, rfl⟩ := trodAll_nil rr0
  obtain rfl : args = #[v0] := by cases args; simp_all
  obtain ⟨A0, n0, c0, rfl⟩ := okWide_slice Try.underlying43 (hval 0 43 v0 rfl rfl)
  obtain ⟨fu0, ho0⟩ := h0
  obtain ⟨bs, hbl, hby, hRd, hnm⟩ := open_code Try.underlying43 Try.underlying5 (by kernel_rfl) ho0
  exact walk ⟨A0, n0, c0, bs⟩ hbl hby hnm W hRd
theorem proved : Rows.FnLedgersSaid :=
  OpenClaim.holds_of_wide 5 Try.f5 rfl rfl rfl rfl rfl rfl rfl ⟨rfl, rfl, rfl, rfl, rfl⟩ rfl rfl rfl rfl rfl (by kernel_rfl) Try.func5 (by kernel_rfl)
    (of_decide_eq_true (by kernel_rfl)) (by unfold Func.isWrapper; first | (rw [if_pos (by decide +kernel)]; kernel_rfl) | (rw [if_neg (by decide +kernel)]; exact ⟨rfl, rfl⟩))
    (fun os started H enc _ => lifted os started H enc)
end fnLedgers
end Go.Proofs.Ytoabhnobgdjgkaa
