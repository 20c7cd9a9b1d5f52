/- Texts of numbers: the program's contracts (decimal, digits, MonthText, MoneyText). The table of the powers of ten lies where the program keeps it. -/
import Derived.Test.YtlbllonpodckgaaGreatDoorTextP
import Derived.Test.YtlbllonpodckgaaGreatDoorNum
import Derived.Test.YtlbllonpodckgaaGreatDoorLaw
import Derived.Test.YtlbllonpodckgaaGreatDoorTail
import Derived.Test.YtlbllonpodckgaaGreatDoorShelf
import Derived.Lib.LaidTab
import Derived.Lib.AppendIntMem
namespace Go.Proofs.YtlbllonpodckgaaGreatDoor
open Go.RowKit Go.BigFrame

/-- the table of the powers of ten -/
def Tab (w : World) : Prop := Lib.TabIs Tryz.prog w "internal/strconv.uint64pow10" .u64 Lib.pow10Tab
theorem Tab.past {w w' : World} (h : Tab w) (hb : Below w.heap.size w w') : Tab w' := by
  unfold Tab Lib.TabIs World.var? at *
  cases hg : Tryz.prog.globalNamed "internal/strconv.uint64pow10" with
  | none => rw [hg] at h; simp at h
  | some g =>
    rw [hg] at h
    simp only [Option.bind_some] at h ⊢
    have hlt : g < w.heap.size := by
      rcases Nat.lt_or_ge g w.heap.size with h1 | h1
      · exact h1
      · rw [Array.getElem?_eq_none h1] at h; simp at h
    rw [hb.block g hlt]
    exact h

theorem impl_decimal_any (n : Int) (hn : In64 n) (w : World) (hT : Tab w) :
    Calls Tryz.prog 87 #[.int .i64 n] w fun e w' => e = .returned (.string (S (Lib.itoa n))) ∧ Below w.heap.size w w' := by
  obtain ⟨h1, h2⟩ := hn
  go_enter Tryz.func87, Tryz.ntmps87
  go_wp2_with (go_at_call 146; refine (Tryz.strconv_FormatInt_10 n h1 h2 _ hT).mono ?_; rintro e w' ⟨rfl, k, os, rfl⟩)
  go_ret
  exact ⟨rfl, Lib.below_grow _ _ (Nat.le_refl _) _ _⟩

set_option maxHeartbeats 1000000 in
theorem impl_digits_any (n : Int) (hn : 0 ≤ n) (hn2 : n ≤ 1000000000000000) (k : Nat) (hk : k ≤ 20) (w : World) (hT : Tab w) :
    Calls Tryz.prog 178 #[.int .i64 n, .int .i64 (k : Int)] w fun e w' => e = .returned (.string (S (padL k (decL n)))) ∧ Below w.heap.size w w' := by
  have HI := Lib.hid (itoa_pos hn)
  have hlen := dec_len (n := n.toNat) (k := 17) (by omega) (by omega)
  have H64 := Lib.hid (show In64 n by unfold In64; omega)
  go_enter Tryz.func178, Tryz.ntmps178
  go_wp2_with fail
  refine (impl_decimal_any n H64.out _ hT).mono ?_
  rw [HI.out]
  rintro e w1 ⟨rfl, hb⟩
  have HB := Lib.hid hb; clear hb
  change (decL n).length ≤ 17 at hlen
  obtain ⟨l, hl⟩ : ∃ l, decL n = l := ⟨_, rfl⟩
  have HLl := Lib.hid hl
  rw [hl] at hlen ⊢
  clear hl HI
  have hsz : (S l).size = l.length := S_size l
  have hmx : max 0 ((k : Int) - (l.length : Int)) = ((k - l.length : Nat) : Int) := by omega
  go_wp2_with fail
  refine (Tryz.strings_Repeat ⟨#[48]⟩ (k - l.length) w1 (by omega) (by
    have h9 : (⟨#[48]⟩ : ByteArray).size = 1 := rfl
    rw [h9]; omega)).mono ?_
  rintro e w2 ⟨rfl, hb2⟩
  have HB2 := Lib.hid (HB.out.trans (hb2.mono HB.out.size)); clear hb2
  rw [show (⟨#[48]⟩ : ByteArray).data.toList = [48] from rfl, repeat48]
  have hz1 : (S (List.replicate (k - l.length) 48)).size ≤ 20 := by rw [S_size]; simp; omega
  change (ByteArray.mk (List.replicate (k - l.length) 48).toArray).size ≤ 20 at hz1
  go_wp2
  go_ret
  refine ⟨?_, HB2.out⟩
  show Ending.returned (.string (S (List.replicate (k - l.length) 48) ++ S l)) = _
  rw [S_append, HLl.out]
  rfl

set_option maxHeartbeats 1000000 in
theorem impl_MonthText_any (n : Int) (w : World) (hT : Tab w) :
    Calls Tryz.prog 131 #[.int .i64 n] w fun e w' => e = .returned (.string (S (monthT n))) ∧ Below w.heap.size w w' := by
  cases h : inR n 0 35999
  · have hn : ¬ (0 ≤ n ∧ n ≤ 35999) := fun hh => by rw [inR_true.2 hh] at h; cases h
    have Q := Lib.hid (monthT_no hn)
    go_enter Tryz.func131, Tryz.ntmps131
    go_wp2_with fail
    refine (impl_isMonth_any n _).mono ?_
    rw [h]
    rintro e w' ⟨rfl, rfl⟩
    go_wp2
    go_ret
    exact ⟨by rw [Q.out]; rfl, Below.refl _ _⟩
  · obtain ⟨h1, h2⟩ := inR_true.1 h
    have Q := Lib.hid (monthT_yes ⟨h1, h2⟩)
    have e1 : n.tdiv 12 = n / 12 := Int.tdiv_eq_ediv_of_nonneg h1
    have e2 : n.tmod 12 = n % 12 := Int.tmod_eq_emod_of_nonneg h1
    go_enter Tryz.func131, Tryz.ntmps131
    go_wp2_with fail
    refine (impl_isMonth_any n _).mono ?_
    rw [h]
    rintro e w' ⟨rfl, rfl⟩
    clear h
    go_wp2_with fail
    have z1 := pad_len (n := n / 12) (k := 4) (by omega)
    have z2 := pad_len (n := n % 12 + 1) (k := 2) (by omega)
    refine (impl_digits_any (n / 12) (by omega) (by omega) 4 (by omega) _ hT).mono ?_
    rintro e w1 ⟨rfl, hb⟩
    have HB := Lib.hid hb
    have hT1 := hT.past hb; clear hb
    go_wp2_with fail
    refine (impl_digits_any (n % 12 + 1) (by omega) (by omega) 2 (by omega) _ hT1).mono ?_
    rintro e w2 ⟨rfl, hb⟩
    have HB2 := Lib.hid (HB.out.trans (hb.mono HB.out.size)); clear hb
    go_wp2
    go_ret
    refine ⟨?_, HB2.out⟩
    rw [Q.out]
    show Ending.returned (.string (S (padL 4 (decL (n / 12))) ++ S [45] ++ S (padL 2 (decL (n % 12 + 1))))) = _
    rw [S_append, S_append]
    rfl

set_option maxHeartbeats 2000000 in
theorem impl_MoneyText_any (n : Int) (w : World) (hT : Tab w) :
    Calls Tryz.prog 133 #[.int .i64 n] w fun e w' => e = .returned (.string (S (moneyT n))) ∧ Below w.heap.size w w' := by
  cases h : inR n (-1000000000000) 1000000000000
  · have hn : ¬ (-1000000000000 ≤ n ∧ n ≤ 1000000000000) := fun hh => by rw [inR_true.2 hh] at h; cases h
    have Q := Lib.hid (moneyT_no hn)
    go_enter Tryz.func133, Tryz.ntmps133
    go_wp2_with fail
    refine (impl_isMoney_any n _).mono ?_
    rw [h]
    rintro e w' ⟨rfl, rfl⟩
    go_wp2
    go_ret
    exact ⟨by rw [Q.out]; rfl, Below.refl _ _⟩
  · obtain ⟨h1, h2⟩ := inR_true.1 h
    have Q := Lib.hid (moneyT_yes ⟨h1, h2⟩)
    by_cases hneg : n < 0
    · obtain ⟨m, hm⟩ : ∃ m, -n = m := ⟨_, rfl⟩
      obtain ⟨m1, m2⟩ : 0 ≤ m ∧ m ≤ 1000000000000 := by omega
      have e1 : m.tdiv 100 = m / 100 := Int.tdiv_eq_ediv_of_nonneg m1
      have e2 : m.tmod 100 = m % 100 := Int.tmod_eq_emod_of_nonneg m1
      have z1 := decS_len (n := m / 100) (by omega)
      have z2 := pad_len (n := m % 100) (k := 2) (by omega)
      have HI := Lib.hid (itoa_pos (n := m / 100) (by omega))
      have H64 := Lib.hid (show In64 (m / 100) by unfold In64; omega)
      have HM := Lib.hid (show moneyL n = [45] ++ decL (m / 100) ++ [46] ++ padL 2 (decL (m % 100)) by rw [moneyL, if_pos hneg, hm]; unfold moneyP; simp)
      go_enter Tryz.func133, Tryz.ntmps133
      go_wp2_with fail
      refine (impl_isMoney_any n _).mono ?_
      rw [h]
      rintro e w' ⟨rfl, rfl⟩
      clear h
      go_wp2_with fail
      refine (impl_decimal_any (m / 100) H64.out _ hT).mono ?_
      rw [HI.out]
      rintro e w1 ⟨rfl, hb⟩
      have HB := Lib.hid hb
      have hT1 := hT.past hb; clear hb
      go_wp2_with fail
      refine (impl_digits_any (m % 100) (by omega) (by omega) 2 (by omega) _ hT1).mono ?_
      rintro e w2 ⟨rfl, hb⟩
      have HB2 := Lib.hid (HB.out.trans (hb.mono HB.out.size)); clear hb
      go_wp2
      go_ret
      refine ⟨?_, HB2.out⟩
      rw [Q.out, HM.out]
      show Ending.returned (.string (S [45] ++ S (decL (m / 100)) ++ S [46] ++ S (padL 2 (decL (m % 100))))) = _
      simp only [S_append]
    · have m1 : 0 ≤ n := by omega
      have e1 : n.tdiv 100 = n / 100 := Int.tdiv_eq_ediv_of_nonneg m1
      have e2 : n.tmod 100 = n % 100 := Int.tmod_eq_emod_of_nonneg m1
      have z1 := decS_len (n := n / 100) (by omega)
      have z2 := pad_len (n := n % 100) (k := 2) (by omega)
      have HI := Lib.hid (itoa_pos (n := n / 100) (by omega))
      have H64 := Lib.hid (show In64 (n / 100) by unfold In64; omega)
      have HM := Lib.hid (show moneyL n = decL (n / 100) ++ [46] ++ padL 2 (decL (n % 100)) by rw [moneyL, if_neg hneg]; rfl)
      go_enter Tryz.func133, Tryz.ntmps133
      go_wp2_with fail
      refine (impl_isMoney_any n _).mono ?_
      rw [h]
      rintro e w' ⟨rfl, rfl⟩
      clear h
      go_wp2_with fail
      refine (impl_decimal_any (n / 100) H64.out _ hT).mono ?_
      rw [HI.out]
      rintro e w1 ⟨rfl, hb⟩
      have HB := Lib.hid hb
      have hT1 := hT.past hb; clear hb
      go_wp2_with fail
      refine (impl_digits_any (n % 100) (by omega) (by omega) 2 (by omega) _ hT1).mono ?_
      rintro e w2 ⟨rfl, hb⟩
      have HB2 := Lib.hid (HB.out.trans (hb.mono HB.out.size)); clear hb
      go_wp2
      go_ret
      refine ⟨?_, HB2.out⟩
      rw [Q.out, HM.out]
      show Ending.returned (.string (S [] ++ S (decL (n / 100)) ++ S [46] ++ S (padL 2 (decL (n % 100))))) = _
      simp only [S_append, List.nil_append]
end Go.Proofs.YtlbllonpodckgaaGreatDoor
