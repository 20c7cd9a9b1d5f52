/- Texts are read: the reference: ReadMonth, l22Number. -/
import Derived.Test.YtlbllonpodckgaaGreatDoorRead4
namespace Go.Proofs.YtlbllonpodckgaaGreatDoor
open Go.RowKit Go.BigFrame

theorem extract_s (s : ByteArray) (f i : Nat) : s.extract f i = S ((s.data.toList.drop f).take (i - f)) := by
  rw [← S_of (s.extract f i), ByteArray.data_extract, Array.toList_extract, List.extract_eq_take_drop]
theorem month_val {s : ByteArray} {m : Int} (h : MonthIs s m) : s.size = 7 ∧ DigitsL (s.extract 0 4 ++ s.extract 5 7).data.toList ∧ ((valL 0 (s.extract 0 4 ++ s.extract 5 7).data.toList : Nat) : Int) = 100 * (m / 12) + m % 12 + 1 := by
  obtain ⟨hm, h2⟩ := h
  have hl := monthL_len m hm
  obtain ⟨k, rfl⟩ := Int.eq_ofNat_of_zero_le hm.1
  have e1 : ((k : Int) / 12).toNat = k / 12 := by omega
  have e2 : ((k : Int) % 12 + 1).toNat = k % 12 + 1 := by omega
  have l4 : (padL 4 (Lib.decDigits (k / 12))).length = 4 := by rw [pad_four (by omega)]; rfl
  have l2 : (padL 2 (Lib.decDigits (k % 12 + 1))).length = 2 := by rw [pad_two (by omega)]; rfl
  obtain ⟨d4, v4⟩ := pad_digits 4 (k / 12)
  obtain ⟨d2, v2⟩ := pad_digits 2 (k % 12 + 1)
  have hx1 : s.extract 0 4 = S (padL 4 (Lib.decDigits (k / 12))) := by
    rw [extract_s, h2, S_list]
    congr 1
    unfold monthL decL
    rw [e1, e2, List.drop_zero, List.append_assoc, List.take_left' l4]
  have hx2 : s.extract 5 7 = S (padL 2 (Lib.decDigits (k % 12 + 1))) := by
    rw [extract_s, h2, S_list]
    congr 1
    unfold monthL decL
    rw [e1, e2, List.drop_left' (by simp [l4]), List.take_of_length_le (by omega)]
  rw [hx1, hx2, S_append, S_list]
  refine ⟨by rw [h2, S_size]; exact hl, digits_append d4 d2, ?_⟩
  obtain ⟨a, b, hab⟩ : ∃ a b, padL 2 (Lib.decDigits (k % 12 + 1)) = [a, b] := by
    match hh : padL 2 (Lib.decDigits (k % 12 + 1)), l2 with
    | [a, b], _ => exact ⟨a, b, rfl⟩
  rw [hab] at v2 ⊢
  rw [valL_append, v4]
  have hs : ∀ x, valL x [a, b] = (x * 10 + (a.toNat - 48)) * 10 + (b.toNat - 48) := fun x => rfl
  rw [hs] at v2 ⊢
  omega
set_option maxHeartbeats 4000000 in
theorem spec_ReadMonth_any (s : ByteArray) (w : World) :
    Calls Tryz.prog 56 #[.string s] w fun e w' => Reads (MonthIs s) w w' e := by
  have HP := Lib.hid (fun m (h : MonthIs s m) => month_val h)
  by_cases h7 : s.size = 7
  rotate_left
  · have h7i : ¬ (s.size : Int) = 7 := by omega
    go_enter Tryz.func56, Tryz.ntmps56
    go_wp2
    go_ret2
    exact ⟨0, false, rfl, by unfold In64; omega, fun m hm => absurd (HP.out m hm).1 h7, Below.refl _ _⟩
  have h7i : (s.size : Int) = 7 := by omega
  have hD : (s.extract 0 4 ++ s.extract 5 7).size = 6 := by rw [ByteArray.size_append, ByteArray.size_extract, ByteArray.size_extract]; omega
  go_enter Tryz.func56, Tryz.ntmps56
  go_wp2_with fail
  go_region
  generalize s.extract 0 4 ++ s.extract 5 7 = D at HP hD ⊢
  change Hid _ at HP
  have HL := Lib.hid (show D.data.toList.length = D.size from rfl)
  have hDi : (D.size : Int) = 6 := by omega
  go_wp2
  go_loopw [5, 6] (fun n i wr => ∃ k : Nat, k ≤ 6 ∧ i = .int .i64 k ∧ n = .int .i64 ((valL 0 (D.data.toList.take k) : Nat) : Int) ∧ Hid (valL 0 (D.data.toList.take k) < 10 ^ k) ∧ Hid (Below w.heap.size w wr)) (fun _ i _ => 6 - (intOf i).toNat)
  case atStart => exact ⟨0, by omega, rfl, rfl, Lib.hid (by simp [valL]), Lib.hid (Below.refl _ _).drew⟩
  case round =>
    obtain ⟨k, hk, rfl, rfl, HV, HB⟩ := hrel
    by_cases hlt : k < 6
    · have hltD : k < D.size := by omega
      have hLk : k < D.data.toList.length := by rw [HL.out]; exact hltD
      have HGE := Lib.hid (show D.data.toList[k] = D[k] from rfl)
      have HTk := Lib.hid (valL_take hLk)
      have hv : valL 0 (D.data.toList.take k) < 1000000 := pow_le HV.out (by omega : k ≤ 6)
      generalize hvv : valL 0 (D.data.toList.take k) = v at HV HTk hv ⊢
      clear hvv
      have hki : (k : Int) < 6 := by omega
      have hkr : (k : Int) < (D.size : Int) := by omega
      by_cases hd1 : D[k].toNat < 48
      · have hd1i : (D[k].toNat : Int) < 48 := by omega
        have HNO := Lib.hid (fun m (hm : MonthIs s m) => (show False from by
          have := (HP.out m hm).2.1 D.data.toList[k] (List.getElem_mem hLk)
          rw [HGE.out] at this; omega))
        go_wp2
        go_ret2
        exact ⟨0, false, rfl, by unfold In64; omega, fun m hm => (HNO.out m hm).elim, HB.out⟩
      by_cases hd2 : 57 < D[k].toNat
      · have hd1i : ¬ (D[k].toNat : Int) < 48 := by omega
        have hd2i : (57 : Int) < (D[k].toNat : Int) := by omega
        have HNO := Lib.hid (fun m (hm : MonthIs s m) => (show False from by
          have := (HP.out m hm).2.1 D.data.toList[k] (List.getElem_mem hLk)
          rw [HGE.out] at this; omega))
        go_wp2
        go_ret2
        exact ⟨0, false, rfl, by unfold In64; omega, fun m hm => (HNO.out m hm).elim, HB.out⟩
      have hd1i : ¬ (D[k].toNat : Int) < 48 := by omega
      have hd2i : ¬ (57 : Int) < (D[k].toNat : Int) := by omega
      have HN := Lib.hid (show valL 0 (D.data.toList.take (k + 1)) < 10 ^ (k + 1) ∧ ((valL 0 (D.data.toList.take (k + 1)) : Nat) : Int) = 10 * (v : Int) + ((D[k].toNat : Int) - 48) from by
        rw [HTk.out, HGE.out]
        exact ⟨digit_lt HV.out (by omega), by omega⟩)
      go_wp2
      go_roundw
      case rel => exact ⟨k + 1, by omega, by go_num, by rw [HN.out.2], Lib.hid HN.out.1, HB⟩
      case measure => simp [intOf]; omega
    · have hkn : k = 6 := by omega
      subst hkn
      have HA := Lib.hid (show D.data.toList.take 6 = D.data.toList from List.take_of_length_le (by rw [HL.out]; omega))
      rw [HA.out] at HV ⊢
      have hv : valL 0 D.data.toList < 1000000 := HV.out
      generalize hvv : valL 0 D.data.toList = v at HV HP hv ⊢
      clear hvv
      change Hid _ at HP
      have e1 : (v : Int).tdiv 100 = (v : Int) / 100 := Int.tdiv_eq_ediv_of_nonneg (by omega)
      have e2 : (v : Int).tmod 100 = (v : Int) % 100 := Int.tmod_eq_emod_of_nonneg (by omega)
      have HM := Lib.hid (fun m (hm : MonthIs s m) => (show 12 * ((v : Int) / 100) + (v : Int) % 100 - 1 = m from by
        have h1 := (HP.out m hm).2.2
        have h2 := hm.1
        omega))
      go_wp2_with fail
      refine (spec_MonthText_any (12 * ((v : Int) / 100) + (v : Int) % 100 - 1) _).mono ?_
      rintro e w1 ⟨rfl, hb⟩
      have HB1 := Lib.hid (HB.out.trans (hb.mono HB.out.size)); clear hb
      by_cases hq : S (monthT (12 * ((v : Int) / 100) + (v : Int) % 100 - 1)) = s
      · have hql := str_eq hq
        go_wp2
        go_ret2
        exact ⟨12 * ((v : Int) / 100) + (v : Int) % 100 - 1, true, rfl, by unfold In64; omega, fun m hm => ⟨HM.out m hm, rfl⟩, HB1.out⟩
      · have hql := str_ne hq
        have HQ := Lib.hid hq; clear hq
        go_wp2
        go_ret2
        exact ⟨0, false, rfl, by unfold In64; omega, fun m hm => absurd (by rw [HM.out m hm, monthT_yes hm.1]; exact hm.2.symm) HQ.out, HB1.out⟩

set_option maxHeartbeats 4000000 in
theorem spec_l22Number_any (s : ByteArray) (w : World) :
    Calls Tryz.prog 58 #[.string s] w fun e w' => e = .returned (.int .i64 (accP s)) ∧ Below w.heap.size w w' := by
  go_enter Tryz.func58, Tryz.ntmps58
  go_wp2_with fail
  refine (names_at w).mono ?_
  rintro e w1 ⟨g, rfl, hN, hb⟩
  have HN := Lib.hid hN; clear hN
  have HB := Lib.hid hb; clear hb
  go_wp2
  go_loopw [4] (fun i wr => ∃ k : Nat, k ≤ 10 ∧ i = .int .i64 k ∧ Hid (∀ j : Nat, j < k → ¬ s = nameB j) ∧ wr = w1) (fun i _ => 10 - (intOf i).toNat)
  case atStart => exact ⟨0, by omega, rfl, Lib.hid (fun j hj => absurd hj (by omega)), rfl⟩
  case round =>
    obtain ⟨k, hk, rfl, HNO, rfl⟩ := hrel
    by_cases hlt : k < 10
    · have hg := names_cell HN.out hlt
      obtain ⟨nk, hnk⟩ : ∃ nk, nameB k = nk := ⟨_, rfl⟩
      rw [hnk] at hg
      have HNK := Lib.hid hnk; clear hnk
      have hki : (k : Int) < 10 := by omega
      by_cases hq : s = nk
      · have hql : (nk.toList == s.toList) = true := str_eq hq.symm
        have HQ := Lib.hid hq; clear hq
        go_wp2
        go_ret
        exact ⟨by rw [accP_at hlt (HQ.out.trans HNK.out.symm)]; rfl, HB.out⟩
      · have hql : (nk.toList == s.toList) = false := str_ne (fun h => hq h.symm)
        have HQ := Lib.hid hq; clear hq
        go_wp2
        go_roundw
        case rel => exact ⟨k + 1, by omega, by go_num, Lib.hid (fun j hj => by
          rcases Nat.lt_or_ge j k with h | h
          · exact HNO.out j h
          · rw [show j = k by omega, HNK.out]; exact HQ.out), trivial⟩
        case measure => simp [intOf]; omega
    · have hkn : k = 10 := by omega
      subst hkn
      go_wp2
      go_ret
      exact ⟨by rw [accP_no (fun j hj => HNO.out j hj)]; rfl, HB.out⟩
end Go.Proofs.YtlbllonpodckgaaGreatDoor
