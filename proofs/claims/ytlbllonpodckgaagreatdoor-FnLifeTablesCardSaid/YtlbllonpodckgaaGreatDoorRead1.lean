/- Texts are read: the tables and variables that reading leans on; ParseInt; ReadMonth of the program. -/
import Derived.Test.YtlbllonpodckgaaGreatDoorParseP
import Derived.Test.YtlbllonpodckgaaGreatDoorTextI
import Derived.Lib.AtoiErrMem
namespace Go.Proofs.YtlbllonpodckgaaGreatDoor
open Go.RowKit Go.BigFrame

/-- what reading leans on: the table of the powers of ten, the errors of numbers, the greatest length -/
structure Env (w : World) : Prop where
  tab : Tab w
  syn : ∃ ev, w.cell? ⟨1, 0, none⟩ = some ev ∧ (ev = .nilIface ∨ ∃ te pe, ev = .iface te pe)
  rng : ∃ ev, w.cell? ⟨2, 0, none⟩ = some ev ∧ (ev = .nilIface ∨ ∃ te pe, ev = .iface te pe)
  mx : ∃ m, w.cell? ⟨3, 0, none⟩ = some (.int .i64 m)
theorem Env.past {w w' : World} (h : Env w) (hb : Below w.heap.size w w') : Env w' := by
  obtain ⟨h1, ⟨e2, h2, k2⟩, ⟨e3, h3, k3⟩, ⟨m, h4⟩⟩ := h
  exact ⟨h1.past hb, ⟨e2, (hb.cell (block_lt_of_cell h2)).trans h2, k2⟩, ⟨e3, (hb.cell (block_lt_of_cell h3)).trans h3, k3⟩, ⟨m, (hb.cell (block_lt_of_cell h4)).trans h4⟩⟩

theorem parse_any (s : ByteArray) (hs : s.size ≤ 1000000) (w : World) (hE : Env w) :
    Calls Tryz.prog 104 #[.string s, .int .i64 10, .int .i64 64] w fun e w' => ∃ (v : Int) (ev : Value), e = .returned (.tuple #[.int .i64 v, ev]) ∧ In64 v ∧ (ev = .nilIface ∨ ∃ te N, ev = .iface te (.pointer (some ⟨N, 0, none⟩))) ∧
      (∀ z, Lib.parseIntB 64 s.data.toList = .ok z → v = z ∧ ev = .nilIface) ∧ Below w.heap.size w w' := by
  obtain ⟨_, ⟨e2, h2, k2⟩, ⟨e3, h3, k3⟩, _⟩ := hE
  cases hq : Lib.parseIntB 64 s.data.toList with
  | ok z =>
    refine (Tryz.strconv_ParseInt_10_at64_ok s (by omega) z hq w).mono ?_
    rintro e w' ⟨rfl, hw⟩
    refine ⟨z, .nilIface, rfl, parseInt_in hq, .inl rfl, fun z' h => by injection h with h; exact ⟨h, rfl⟩, ?_⟩
    rcases hw with rfl | ⟨t, rfl⟩
    · exact Below.refl _ _
    · exact Lib.bytesWorld_below w _ t
  | range =>
    refine (Tryz.strconv_ParseInt_10_at64_range s (by omega) hq e3 w h3 k3).mono ?_
    rintro e w' ⟨N, rfl, _, _, hb⟩
    exact ⟨_, _, rfl, intSat_in _, .inr ⟨_, N, rfl⟩, fun z h => (by cases h), hb⟩
  | _ =>
    refine (Any.strconv_ParseInt_10_at64_syntax Tryz.laysC174 s (by omega) hq e2 w h2 k2).mono ?_
    rintro e w' ⟨N, rfl, _, _, hb⟩
    exact ⟨0, _, rfl, by unfold In64; omega, .inr ⟨_, N, rfl⟩, fun z h => (by cases h), hb⟩

theorem month_parts {m : Int} (h : 0 ≤ m ∧ m ≤ 35999) : Lib.parseIntB 64 ((monthL m).take 4) = .ok (m / 12) ∧ Lib.parseIntB 64 ((monthL m).drop 5) = .ok (m % 12 + 1) := by
  obtain ⟨k, rfl⟩ := Int.eq_ofNat_of_zero_le h.1
  have e1 : ((k : Int) / 12).toNat = k / 12 := by omega
  have e2 : ((k : Int) % 12 + 1).toNat = k % 12 + 1 := by omega
  have l4 : (padL 4 (Lib.decDigits (k / 12))).length = 4 := by rw [pad_four (by omega)]; rfl
  have l2 : (padL 2 (Lib.decDigits (k % 12 + 1))).length = 2 := by rw [pad_two (by omega)]; rfl
  obtain ⟨d4, v4⟩ := pad_digits 4 (k / 12)
  obtain ⟨d2, v2⟩ := pad_digits 2 (k % 12 + 1)
  unfold monthL decL
  rw [e1, e2]
  constructor
  · rw [List.append_assoc, List.take_left' l4, parseInt_digits (by intro h0; rw [h0] at l4; cases l4) d4 (by rw [v4]; omega), v4]
    congr 1
  · rw [List.drop_left' (by simp [l4]), parseInt_digits (by intro h0; rw [h0] at l2; cases l2) d2 (by rw [v2]; omega), v2]
    congr 1
theorem extract_list (s : ByteArray) (a b : Nat) : (s.extract a b).data.toList = (s.data.toList.drop a).take (b - a) := by
  rw [ByteArray.data_extract, Array.toList_extract, List.extract_eq_take_drop]

theorem impl_MonthOf_any (y m : Int) (w : World) :
    Calls Tryz.prog 174 #[.int .i64 y, .int .i64 m] w fun e w' => ∃ (n c : Int), e = .returned (.tuple #[.int .i64 n, .int .i64 c]) ∧ In64 n ∧ (0 ≤ y ∧ y ≤ 2999 → 1 ≤ m ∧ m ≤ 12 → n = 12 * y + m - 1 ∧ c = 0) ∧ w = w' := by
  cases h1 : inR y 0 2999
  · go_enter Tryz.func174, Tryz.ntmps174
    go_wp2_with fail
    refine (impl_inRange_any y 0 2999 _).mono ?_
    rw [h1]
    rintro e w' ⟨rfl, rfl⟩
    go_wp2
    go_ret2
    exact ⟨0, 2, rfl, by unfold In64; omega, fun h _ => (by rw [inR_true.2 h] at h1; cases h1), rfl⟩
  cases h2 : inR m 1 12
  · go_enter Tryz.func174, Tryz.ntmps174
    go_wp2_with fail
    refine (impl_inRange_any y 0 2999 _).mono ?_
    rw [h1]
    rintro e w' ⟨rfl, rfl⟩
    go_wp2_with fail
    refine (impl_inRange_any m 1 12 _).mono ?_
    rw [h2]
    rintro e w' ⟨rfl, rfl⟩
    go_wp2
    go_ret2
    exact ⟨0, 2, rfl, by unfold In64; omega, fun _ h => (by rw [inR_true.2 h] at h2; cases h2), rfl⟩
  obtain ⟨y0, y1⟩ := inR_true.1 h1
  obtain ⟨m0, m1⟩ := inR_true.1 h2
  go_enter Tryz.func174, Tryz.ntmps174
  go_wp2_with fail
  refine (impl_inRange_any y 0 2999 _).mono ?_
  rw [h1]
  rintro e w' ⟨rfl, rfl⟩
  go_wp2_with fail
  refine (impl_inRange_any m 1 12 _).mono ?_
  rw [h2]
  rintro e w' ⟨rfl, rfl⟩
  go_wp2
  go_ret2
  exact ⟨_, 0, rfl, by unfold In64; omega, fun _ _ => ⟨rfl, rfl⟩, rfl⟩

set_option maxHeartbeats 4000000 in
theorem impl_ReadMonth_any (s : ByteArray) (w : World) (hE : Env w) :
    Calls Tryz.prog 126 #[.string s] w fun e w' => ∃ (n : Int) (b : Bool), e = .returned (.tuple #[.int .i64 n, .bool b]) ∧ In64 n ∧ (∀ m, 0 ≤ m ∧ m ≤ 35999 → s = S (monthL m) → n = m ∧ b = true) ∧ Below w.heap.size w w' := by
  have HE := Lib.hid hE; clear hE
  by_cases h7 : s.size = 7
  rotate_left
  · have hno := Lib.hid (fun m (hm : 0 ≤ m ∧ m ≤ 35999) (h : s = S (monthL m)) => h7 (by rw [h, S_size, monthL_len m hm]))
    have h7i : ¬ (s.size : Int) = 7 := by omega
    go_enter Tryz.func126, Tryz.ntmps126
    go_wp2
    go_ret2
    exact ⟨0, false, rfl, by unfold In64; omega, fun m hm h => absurd h (fun h => hno.out m hm h), Below.refl _ _⟩
  have h7i : (s.size : Int) = 7 := by omega
  have HP := Lib.hid (fun m (hm : 0 ≤ m ∧ m ≤ 35999) (h : s = S (monthL m)) => (show Lib.parseIntB 64 (s.extract 0 4).data.toList = .ok (m / 12) ∧ Lib.parseIntB 64 (s.extract 5 7).data.toList = .ok (m % 12 + 1) from by
    obtain ⟨p1, p2⟩ := month_parts hm
    have hl := monthL_len m hm
    rw [extract_list, extract_list, h, S_list]
    refine ⟨p1, ?_⟩
    rw [List.take_of_length_le (by rw [List.length_drop, hl]; omega)]
    exact p2))
  go_enter Tryz.func126, Tryz.ntmps126
  have hx1 : (s.extract 0 4).size ≤ 1000000 := by rw [ByteArray.size_extract]; omega
  have hx2 : (s.extract 5 7).size ≤ 1000000 := by rw [ByteArray.size_extract]; omega
  go_wp2_with fail
  refine (parse_any _ hx1 _ HE.out).mono ?_
  rintro e w1 ⟨y, e1, rfl, hy, hn1, hp1, hb⟩
  have HB1 := Lib.hid hb
  have HE1 := Lib.hid (HE.out.past hb); clear hb
  go_wp2_with fail
  refine (parse_any _ hx2 _ HE1.out).mono ?_
  rintro e w2 ⟨m, e2, rfl, hm, hn2, hp2, hb⟩
  have HB2 := Lib.hid (HB1.out.trans (hb.mono HB1.out.size))
  have HE2 := Lib.hid (HE1.out.past hb); clear hb
  go_wp2_with fail
  refine (impl_MonthOf_any y m _).mono ?_
  rintro e w3 ⟨n, c, rfl, hn, hok, rfl⟩
  have HC := Lib.hid (fun m' (hm' : 0 ≤ m' ∧ m' ≤ 35999) (h : s = S (monthL m')) => (show e1 = .nilIface ∧ e2 = .nilIface ∧ n = m' ∧ c = 0 from by
    obtain ⟨q1, q2⟩ := HP.out m' hm' h
    obtain ⟨a1, a2⟩ := hp1 _ q1
    obtain ⟨b1, b2⟩ := hp2 _ q2
    obtain ⟨c1, c2⟩ := hok (by omega) (by omega)
    exact ⟨a2, b2, by omega, c2⟩))
  have HN := Lib.hid hn; clear hn hok hp1 hp2 hx1 hx2 hy hm
  rcases hn1 with rfl | ⟨te1, N1, rfl⟩
  rotate_left
  · go_wp2
    go_ret2
    exact ⟨0, false, rfl, by unfold In64; omega, fun m' hm' h => (by have := (HC.out m' hm' h).1; cases this), HB2.out⟩
  rcases hn2 with rfl | ⟨te2, N2, rfl⟩
  rotate_left
  · go_wp2
    go_ret2
    exact ⟨0, false, rfl, by unfold In64; omega, fun m' hm' h => (by have := (HC.out m' hm' h).2.1; cases this), HB2.out⟩
  by_cases hc : c = 0
  rotate_left
  · go_wp2
    go_ret2
    exact ⟨0, false, rfl, by unfold In64; omega, fun m' hm' h => absurd (HC.out m' hm' h).2.2.2 hc, HB2.out⟩
  subst hc
  go_wp2_with fail
  refine (impl_MonthText_any n _ HE2.out.tab).mono ?_
  rintro e w4 ⟨rfl, hb⟩
  have HB4 := Lib.hid (HB2.out.trans (hb.mono HB2.out.size)); clear hb
  by_cases hq : S (monthT n) = s
  · go_wp2
    go_ret2
    exact ⟨n, true, rfl, HN.out, fun m' hm' h => ⟨(HC.out m' hm' h).2.2.1, rfl⟩, HB4.out⟩
  · have hcn : ∀ m', 0 ≤ m' ∧ m' ≤ 35999 → s = S (monthL m') → False := fun m' hm' h => hq (by rw [(HC.out m' hm' h).2.2.1, monthT_yes hm', h])
    have HQ := Lib.hid hcn; clear hcn
    have hql : ((S (monthT n)).toList == s.toList) = false := str_ne hq
    go_wp2
    go_ret2
    exact ⟨0, false, rfl, by unfold In64; omega, fun m' hm' h => (HQ.out m' hm' h).elim, HB4.out⟩
end Go.Proofs.YtlbllonpodckgaaGreatDoor
