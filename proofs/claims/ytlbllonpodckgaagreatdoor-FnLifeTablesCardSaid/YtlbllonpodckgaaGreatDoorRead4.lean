/- Texts are read: the reference: l01Digits, MonthText, MoneyText, ReadMonth, l22Number. -/
import Derived.Test.YtlbllonpodckgaaGreatDoorRead2
import Derived.Test.YtlbllonpodckgaaGreatDoorTextS
import Derived.Test.YtlbllonpodckgaaGreatDoorJour2
namespace Go.Proofs.YtlbllonpodckgaaGreatDoor
open Go.RowKit Go.BigFrame

theorem spec_MonthText_any (n : Int) (w : World) :
    Calls Tryz.prog 115 #[.int .i64 n] w fun e w' => e = .returned (.string (S (monthT n))) ∧ Below w.heap.size w w' := by
  cases h : inR n 0 35999
  · have Q := Lib.hid (monthT_no (n := n) (fun hh => by rw [inR_true.2 hh] at h; cases h))
    go_enter Tryz.func115, Tryz.ntmps115
    go_wp2_with fail
    refine (spec_l02Month_any n _).mono ?_
    rw [h]
    rintro e w' ⟨rfl, rfl⟩
    go_wp2
    go_ret
    exact ⟨by rw [Q.out]; rfl, Below.refl _ _⟩
  · obtain ⟨h1, h2⟩ := inR_true.1 h
    have Q := Lib.hid (monthT_yes ⟨h1, h2⟩)
    go_enter Tryz.func115, Tryz.ntmps115
    go_wp2_with fail
    refine (spec_l02Month_any n _).mono ?_
    rw [h]
    rintro e w' ⟨rfl, rfl⟩
    clear h
    go_wp2_with fail
    refine (spec_l02Text_any n h1 h2 _).mono ?_
    rintro e w1 ⟨rfl, hb⟩
    go_wp2
    go_ret
    exact ⟨by rw [Q.out]; rfl, hb⟩
theorem spec_MoneyText_any (n : Int) (w : World) :
    Calls Tryz.prog 117 #[.int .i64 n] w fun e w' => e = .returned (.string (S (moneyT n))) ∧ Below w.heap.size w w' := by
  cases h : inR n (-1000000000000) 1000000000000
  · have Q := Lib.hid (moneyT_no (n := n) (fun hh => by rw [inR_true.2 hh] at h; cases h))
    go_enter Tryz.func117, Tryz.ntmps117
    go_wp2_with fail
    refine (spec_l01Money_any n _).mono ?_
    rw [h]
    rintro e w' ⟨rfl, rfl⟩
    go_wp2
    go_ret
    exact ⟨by rw [Q.out]; rfl, Below.refl _ _⟩
  · obtain ⟨h1, h2⟩ := inR_true.1 h
    have Q := Lib.hid (moneyT_yes ⟨h1, h2⟩)
    go_enter Tryz.func117, Tryz.ntmps117
    go_wp2_with fail
    refine (spec_l01Money_any n _).mono ?_
    rw [h]
    rintro e w' ⟨rfl, rfl⟩
    clear h
    go_wp2_with fail
    refine (spec_l01Text_any n h1 h2 _).mono ?_
    rintro e w1 ⟨rfl, hb⟩
    go_wp2
    go_ret
    exact ⟨by rw [Q.out]; rfl, hb⟩
theorem valL_take {L : List UInt8} {k : Nat} (h : k < L.length) : valL 0 (L.take (k + 1)) = valL 0 (L.take k) * 10 + (L[k].toNat - 48) := by
  rw [List.take_add_one, List.getElem?_eq_getElem h, Option.toList_some, valL_append]; rfl
theorem digits_take {L : List UInt8} {k : Nat} (h : k < L.length) (hd : DigitsL (L.take k)) (h1 : 48 ≤ L[k].toNat) (h2 : L[k].toNat ≤ 57) : DigitsL (L.take (k + 1)) := by
  rw [List.take_add_one, List.getElem?_eq_getElem h, Option.toList_some]
  refine digits_append hd fun c hc => ?_
  simp at hc; subst hc; exact ⟨h1, h2⟩
theorem digit_lt {v k d : Nat} (h : v < 10 ^ k) (hd : d ≤ 9) : v * 10 + d < 10 ^ (k + 1) := by rw [Nat.pow_succ]; omega
theorem pow_le {v k j : Nat} (h : v < 10 ^ k) (hk : k ≤ j) : v < 10 ^ j := Nat.lt_of_lt_of_le h (Nat.pow_le_pow_right (by omega) hk)

/-- a number's text -/
def DecIs (s : ByteArray) (m : Int) : Prop := (0 ≤ m ∧ m ≤ 9999999999999) ∧ s = S (decL m)
theorem decIs_val {s : ByteArray} {m : Int} (h : DecIs s m) : DigitsL s.data.toList ∧ ((valL 0 s.data.toList : Nat) : Int) = m ∧ 1 ≤ s.size ∧ s.size ≤ 13 := by
  obtain ⟨⟨h0, h1⟩, h2⟩ := h
  obtain ⟨k, rfl⟩ := Int.eq_ofNat_of_zero_le h0
  obtain ⟨d, v⟩ := dec_digits k
  have h3 : s.data.toList = Lib.decDigits k := by rw [h2, S_list]; rfl
  rw [h3]
  have h5 : s.size = (Lib.decDigits k).length := by rw [← h3]; rfl
  rw [h5]
  exact ⟨d, by rw [v], dec_pos k, dec_len (by omega) (by omega)⟩

def SmallN (e : Ending) : Prop := ∃ (n : Int) (b : Bool), e = .returned (.tuple #[.int .i64 n, .bool b]) ∧ 0 ≤ n ∧ n ≤ 9999999999999
def ReadsD (s : ByteArray) (w w' : World) (e : Ending) : Prop := Reads (DecIs s) w w' e ∧ SmallN e
set_option maxHeartbeats 4000000 in
theorem spec_l01Digits_any (s : ByteArray) (w : World) :
    Calls Tryz.prog 116 #[.string s] w fun e w' => ReadsD s w w' e := by
  have hsl : s.data.toList.length = s.size := rfl
  have HL := Lib.hid hsl; clear hsl
  have HP := Lib.hid (fun m (h : DecIs s m) => decIs_val h)
  by_cases h1 : s.size < 1
  · have h1i : (s.size : Int) < 1 := by omega
    go_enter Tryz.func116, Tryz.ntmps116
    go_wp2
    go_ret2
    exact ⟨⟨0, false, rfl, by unfold In64; omega, fun m hm => absurd (HP.out m hm).2.2.1 (by omega), Below.refl _ _⟩, 0, false, rfl, by omega, by omega⟩
  have h1i : ¬ (s.size : Int) < 1 := by omega
  by_cases h2 : 13 < s.size
  · have h2i : (13 : Int) < (s.size : Int) := by omega
    go_enter Tryz.func116, Tryz.ntmps116
    go_wp2
    go_ret2
    exact ⟨⟨0, false, rfl, by unfold In64; omega, fun m hm => absurd (HP.out m hm).2.2.2 (by omega), Below.refl _ _⟩, 0, false, rfl, by omega, by omega⟩
  have h2i : ¬ (13 : Int) < (s.size : Int) := by omega
  go_enter Tryz.func116, Tryz.ntmps116
  go_wp2
  go_loopw [4, 5] (fun n i wr => ∃ k : Nat, k ≤ s.size ∧ i = .int .i64 k ∧ n = .int .i64 ((valL 0 (s.data.toList.take k) : Nat) : Int) ∧ Hid (valL 0 (s.data.toList.take k) < 10 ^ k) ∧ wr = w) (fun _ i _ => s.size - (intOf i).toNat)
  case atStart => exact ⟨0, by omega, rfl, rfl, Lib.hid (by simp [valL]), rfl⟩
  case round =>
    obtain ⟨k, hk, rfl, rfl, HV, rfl⟩ := hrel
    by_cases hlt : k < s.size
    · have hLk : k < s.data.toList.length := by rw [HL.out]; exact hlt
      have HGE := Lib.hid (show s.data.toList[k] = s[k] from rfl)
      have HTk := Lib.hid (valL_take hLk)
      have hv : valL 0 (s.data.toList.take k) < 10000000000000 := pow_le HV.out (by omega : k ≤ 13)
      generalize hvv : valL 0 (s.data.toList.take k) = v at HV HTk hv ⊢
      clear hvv
      by_cases hd1 : s[k].toNat < 48
      · have hd1i : (s[k].toNat : Int) < 48 := by omega
        have HNO := Lib.hid (fun m (hm : DecIs s m) => (show False from by
          have := (HP.out m hm).1 s.data.toList[k] (List.getElem_mem hLk)
          rw [HGE.out] at this; omega))
        go_wp2
        go_ret2
        exact ⟨⟨0, false, rfl, by unfold In64; omega, fun m hm => (HNO.out m hm).elim, Below.refl _ _⟩, 0, false, rfl, by omega, by omega⟩
      by_cases hd2 : 57 < s[k].toNat
      · have hd1i : ¬ (s[k].toNat : Int) < 48 := by omega
        have hd2i : (57 : Int) < (s[k].toNat : Int) := by omega
        have HNO := Lib.hid (fun m (hm : DecIs s m) => (show False from by
          have := (HP.out m hm).1 s.data.toList[k] (List.getElem_mem hLk)
          rw [HGE.out] at this; omega))
        go_wp2
        go_ret2
        exact ⟨⟨0, false, rfl, by unfold In64; omega, fun m hm => (HNO.out m hm).elim, Below.refl _ _⟩, 0, false, rfl, by omega, by omega⟩
      have hd1i : ¬ (s[k].toNat : Int) < 48 := by omega
      have hd2i : ¬ (57 : Int) < (s[k].toNat : Int) := by omega
      have HN := Lib.hid (show valL 0 (s.data.toList.take (k + 1)) < 10 ^ (k + 1) ∧ ((valL 0 (s.data.toList.take (k + 1)) : Nat) : Int) = 10 * (v : Int) + ((s[k].toNat : Int) - 48) from by
        rw [HTk.out, HGE.out]
        exact ⟨digit_lt HV.out (by omega), by omega⟩)
      go_wp2
      go_roundw
      case rel => exact ⟨k + 1, by omega, by go_num, by rw [HN.out.2], Lib.hid HN.out.1, trivial⟩
      case measure => simp [intOf]; omega
    · have hkn : k = s.size := by omega
      subst hkn
      have HA := Lib.hid (show s.data.toList.take s.size = s.data.toList from List.take_of_length_le (by rw [HL.out]; exact Nat.le_refl _))
      rw [HA.out] at HV ⊢
      have hv : valL 0 s.data.toList < 10000000000000 := pow_le HV.out (by omega : s.size ≤ 13)
      generalize hvv : valL 0 s.data.toList = v at HV HP hv ⊢
      clear hvv
      change Hid _ at HP
      go_wp2_with fail
      refine (spec_l01Dec_int (v : Int) (by omega) (by omega) _).mono ?_
      rintro e w1 ⟨rfl, hb⟩
      by_cases hq : S (decL (v : Int)) = s
      · have hql := str_eq hq
        go_wp2
        go_ret2
        exact ⟨⟨v, true, rfl, by unfold In64; omega, fun m hm => ⟨(HP.out m hm).2.1, rfl⟩, hb⟩, v, true, rfl, by omega, by omega⟩
      · have hql := str_ne hq
        have HQ := Lib.hid hq; clear hq
        go_wp2
        go_ret2
        exact ⟨⟨v, false, rfl, by unfold In64; omega, fun m hm => absurd (by rw [(HP.out m hm).2.1]; exact hm.2.symm) HQ.out, hb⟩, v, false, rfl, by omega, by omega⟩
end Go.Proofs.YtlbllonpodckgaaGreatDoor
