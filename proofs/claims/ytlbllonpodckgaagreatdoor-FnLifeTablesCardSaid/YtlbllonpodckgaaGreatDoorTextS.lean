/- Texts of numbers: the reference's contracts (l01Dec, l01Text, l02Text). -/
import Derived.Test.YtlbllonpodckgaaGreatDoorTextP
import Derived.Test.YtlbllonpodckgaaGreatDoorNum
import Derived.Test.YtlbllonpodckgaaGreatDoorLaw
import Derived.Test.YtlbllonpodckgaaGreatDoorTail
import Derived.Laws.IdiomStrings
import Derived.Deep.RegionLaw
namespace Go.Proofs.YtlbllonpodckgaaGreatDoor
open Go.RowKit Go.BigFrame

theorem dg_nat {n : Nat} (h : n < 10) : ((dg n).toNat : Int) = 48 + (n : Int) := by
  have : (dg n).toNat = 48 + n := by unfold dg; rw [UInt8.toNat_ofNat']; omega
  omega
theorem conv_at {n : Nat} (h : n < 10) {X : World} {g : Nat} (hX : X.cell? ⟨g, 0, none⟩ = some (.int .u8 (48 + (n : Int)))) : (convert 28 9 (.slice (some ⟨g, 0, none⟩) 1 1)).run Tryz.prog X = .ok (.string (S [dg n])) X :=
  run_convert_bytes_back _ _ _ 5 ⟨g, 0, none⟩ 1 [dg n] Tryz.underlying28 Tryz.underlying5 Tryz.underlying9 (fun j hj => by
    have : j = 0 := by simpa using hj
    subst this
    rw [add_none, hX]
    simp [dg_nat h])
theorem conv_one {n : Nat} (h : n < 10) (X : World) : (convert 28 9 (.slice (some ⟨X.heap.size, 0, none⟩) 1 1)).run Tryz.prog (X.alloc (.cells #[.int .u8 (48 + (n : Int))] 5)) = .ok (.string (S [dg n])) (X.alloc (.cells #[.int .u8 (48 + (n : Int))] 5)) :=
  run_convert_bytes_back _ _ _ 5 ⟨X.heap.size, 0, none⟩ 1 [dg n] Tryz.underlying28 Tryz.underlying5 Tryz.underlying9 (fun j hj => by
    have : j = 0 := by simpa using hj
    subst this
    rw [add_none, Nat.zero_add, (Blk.new X _ _).cell]
    simp [dg_nat h])

set_option maxHeartbeats 2000000 in
theorem spec_l01Dec_any : ∀ (n : Nat), n ≤ 1000000000000000000 → ∀ w : World,
    Calls Tryz.prog 124 #[.int .i64 (n : Int)] w fun e w' => e = .returned (.string (S (Lib.decDigits n))) ∧ Below w.heap.size w w' := by
  intro n
  induction n using Nat.strongRecOn with
  | _ n ih =>
    intro hn w
    by_cases h : n < 10
    · have Q := Lib.hid (dec_small h)
      have hi : (n : Int) < 10 := by omega
      have hC := conv_one h
      go_enter Tryz.func124, Tryz.ntmps124
      go_wp2
      go_ret
      exact ⟨by rw [Q.out]; rfl, (Below.refl _ _).alloc (Nat.le_refl _) _⟩
    · have Q := Lib.hid (dec_big h)
      have e1 : (n : Int).tdiv 10 = ((n / 10 : Nat) : Int) := by rw [Int.tdiv_eq_ediv_of_nonneg (by omega)]; omega
      have e2 : (n : Int).tmod 10 = ((n % 10 : Nat) : Int) := by rw [Int.tmod_eq_emod_of_nonneg (by omega)]; omega
      have c1 : ((n / 10 : Nat) : Int) = (n : Int) / 10 := by omega
      have c2 : ((n % 10 : Nat) : Int) = (n : Int) % 10 := by omega
      have IH := Lib.hid (fun X => (show Calls Tryz.prog 124 #[.int .i64 ((n : Int) / 10)] X fun e w' => e = .returned (.string (S (Lib.decDigits (n / 10)))) ∧ Below X.heap.size X w' from by rw [← c1]; exact ih (n / 10) (by omega) (by omega) X))
      have w1 : IntKind.i64.wrap ((n : Int) / 10) = (n : Int) / 10 := IntWalk.i64_in _ (by omega)
      have w2 : IntKind.i64.wrap (48 + (n : Int) % 10) = 48 + (n : Int) % 10 := IntWalk.i64_in _ (by omega)
      have w3 : IntKind.u8.wrap (48 + (n : Int) % 10) = 48 + (n : Int) % 10 := by
        simp [IntKind.wrap, IntKind.bits, IntKind.signed]; omega
      have hi : ¬ (n : Int) < 10 := by omega
      have hm : n % 10 < 10 := by omega
      clear ih
      have hC := conv_one hm
      rw [c2] at hC
      have z1 : (S (Lib.decDigits (n / 10))).size ≤ 18 := by rw [S_size]; exact dec_len (by omega) (by omega)
      have z2 : (S [dg (n % 10)]).size = 1 := S_size _
      have z3 : ¬ (9223372036854775807 < (S (Lib.decDigits (n / 10))).size + 1) := by omega
      have HCV := Lib.hid (fun X g => conv_at hm (X := X) (g := g))
      have hD := HCV.out (w.alloc (.cells #[.int .u8 (48 + (((n % 10 : Nat) : Int)))] 5)).drew w.heap.size ((Blk.new w 5 #[.int .u8 (48 + (((n % 10 : Nat) : Int)))]).drew.cell 0)
      rw [c2] at hD
      have HC2 := Lib.hid c2
      clear c1 c2
      have HDR := Lib.hid ((Below.refl w.heap.size w).drew)
      have HP := Lib.hid (fun w' (q : Below w.heap.size w w') (o : Obj) => q.alloc q.size o)
      go_enter Tryz.func124, Tryz.ntmps124
      go_wp2
      go_region_law (go_simp; go_at_call 124; refine (IH.out _).mono ?_; rintro e w1 ⟨rfl, hb1⟩; have hcc1 : Below w.heap.size w w1 := (by first | exact HDR.out.trans (hb1.mono HDR.out.size) | exact (HP.out _ HDR.out _).trans (hb1.mono (HP.out _ HDR.out _).size)); (first | (have hD1 := HCV.out w1 w.heap.size (by rw [HC2.out]; exact (Blk.below' (Blk.new w 5 #[.int .u8 (48 + (n : Int) % 10)]).drew hb1).cell 0)) | (have hD1 := HC2)))
      all_goals go_wp2
      all_goals (go_ret; exact ⟨by rw [Q.out, ← S_append]; rfl, by first | exact hcc1 | exact HP.out _ hcc1 _⟩)
theorem spec_l01Dec_int (z : Int) (h0 : 0 ≤ z) (h1 : z ≤ 1000000000000000000) (w : World) :
    Calls Tryz.prog 124 #[.int .i64 z] w fun e w' => e = .returned (.string (S (decL z))) ∧ Below w.heap.size w w' := by
  obtain ⟨n, rfl⟩ := Int.eq_ofNat_of_zero_le h0
  exact spec_l01Dec_any n (by omega) w
theorem toNat_dm (k a b c : Nat) : ((k : Int) / (a : Int) / (b : Int) % (c : Int)).toNat = k / a / b % c := by
  rw [← Int.natCast_ediv, ← Int.natCast_ediv, ← Int.natCast_emod, Int.toNat_natCast]
theorem decL_small {z : Int} (h : 0 ≤ z ∧ z < 10) : decL z = [dg z.toNat] := dec_small (by omega)

set_option maxHeartbeats 2000000 in
theorem spec_l01Text_pos (n : Int) (h0 : 0 ≤ n) (h1 : n ≤ 1000000000000) (w : World) :
    Calls Tryz.prog 123 #[.int .i64 n] w fun e w' => e = .returned (.string (S (moneyP n))) ∧ Below w.heap.size w w' := by
    have e1 : n.tdiv 100 = n / 100 := Int.tdiv_eq_ediv_of_nonneg h0
    have e2 : n.tdiv 10 = n / 10 := Int.tdiv_eq_ediv_of_nonneg h0
    have e3 : (n / 10).tmod 10 = n / 10 % 10 := Int.tmod_eq_emod_of_nonneg (by omega)
    have e4 : n.tmod 10 = n % 10 := Int.tmod_eq_emod_of_nonneg h0
    have Q := Lib.hid (show moneyP n = decL (n / 100) ++ [46] ++ decL (n / 10 % 10) ++ decL (n % 10) by
      obtain ⟨m, rfl⟩ := Int.eq_ofNat_of_zero_le h0
      rw [money_eq, decL_small (z := (m : Int) / 10 % 10) (by omega), decL_small (z := (m : Int) % 10) (by omega)]
      unfold decL
      rw [show ((m : Int) / 100).toNat = m / 100 by omega, show ((m : Int) / 10 % 10).toNat = m / 10 % 10 by omega, show ((m : Int) % 10).toNat = m % 10 by omega]
      simp)
    go_enter Tryz.func123, Tryz.ntmps123
    go_wp2_with fail
    refine (spec_l01Dec_int (n / 100) (by omega) (by omega) _).mono ?_
    rintro e w1 ⟨rfl, hb1⟩
    have HB1 := Lib.hid (hb1); clear hb1
    have z1 := decS_len (n := n / 100) (by omega)
    go_wp2_with fail
    refine (spec_l01Dec_int (n / 10 % 10) (by omega) (by omega) _).mono ?_
    rintro e w2 ⟨rfl, hb2⟩
    have HB2 := Lib.hid (HB1.out.trans (hb2.mono HB1.out.size)); clear hb2
    have z2 := decS_len (n := n / 10 % 10) (by omega)
    go_wp2_with fail
    refine (spec_l01Dec_int (n % 10) (by omega) (by omega) _).mono ?_
    rintro e w3 ⟨rfl, hb3⟩
    have HB3 := Lib.hid (HB2.out.trans (hb3.mono HB2.out.size)); clear hb3
    have z3 := decS_len (n := n % 10) (by omega)
    go_wp2
    go_ret
    refine ⟨?_, HB3.out⟩
    rw [Q.out]
    show Ending.returned (.string (S (decL (n / 100)) ++ S [46] ++ S (decL (n / 10 % 10)) ++ S (decL (n % 10)))) = _
    simp only [S_append]

set_option maxHeartbeats 2000000 in
theorem spec_l01Text_any (n : Int) (h0 : -1000000000000 ≤ n) (h1 : n ≤ 1000000000000) (w : World) :
    Calls Tryz.prog 123 #[.int .i64 n] w fun e w' => e = .returned (.string (S (moneyL n))) ∧ Below w.heap.size w w' := by
  by_cases hneg : n < 0
  · have Q := Lib.hid (show moneyL n = [45] ++ moneyP (-n) by rw [moneyL, if_pos hneg]; rfl)
    have hsz : (S (moneyP (-n))).size ≤ 30 := by
      have h := moneyL_len (n := -n) (by omega)
      rw [moneyL, if_neg (by omega)] at h
      rw [S_size]; exact h
    go_enter Tryz.func123, Tryz.ntmps123
    go_wp2_with fail
    refine (spec_l01Text_pos (-n) (by omega) (by omega) _).mono ?_
    rintro e w1 ⟨rfl, hb1⟩
    go_wp2
    go_ret
    refine ⟨?_, hb1⟩
    rw [Q.out]
    show Ending.returned (.string (S [45] ++ S (moneyP (-n)))) = _
    simp only [S_append]
  · rw [show moneyL n = moneyP n by rw [moneyL, if_neg hneg]]
    exact spec_l01Text_pos n (by omega) h1 w

set_option maxHeartbeats 2000000 in
theorem spec_l02Text_any (n : Int) (h0 : 0 ≤ n) (h1 : n ≤ 35999) (w : World) :
    Calls Tryz.prog 122 #[.int .i64 n] w fun e w' => e = .returned (.string (S (monthL n))) ∧ Below w.heap.size w w' := by
    have e1 : n.tdiv 12 = n / 12 := Int.tdiv_eq_ediv_of_nonneg h0
    have e2 : n.tmod 12 = n % 12 := Int.tmod_eq_emod_of_nonneg h0
    obtain ⟨y, hy⟩ : ∃ y, n / 12 = y := ⟨_, rfl⟩
    obtain ⟨m, hm⟩ : ∃ m, n % 12 + 1 = m := ⟨_, rfl⟩
    have y0 : 0 ≤ y := by omega
    have m0 : 0 ≤ m := by omega
    have y1 : y < 3000 := by omega
    have m1 : m ≤ 12 := by omega
    have e3 : y.tdiv 1000 = y / 1000 := Int.tdiv_eq_ediv_of_nonneg y0
    have e4 : y.tdiv 100 = y / 100 := Int.tdiv_eq_ediv_of_nonneg y0
    have e5 : (y / 100).tmod 10 = y / 100 % 10 := Int.tmod_eq_emod_of_nonneg (by omega)
    have e6 : y.tdiv 10 = y / 10 := Int.tdiv_eq_ediv_of_nonneg y0
    have e7 : (y / 10).tmod 10 = y / 10 % 10 := Int.tmod_eq_emod_of_nonneg (by omega)
    have e8 : y.tmod 10 = y % 10 := Int.tmod_eq_emod_of_nonneg y0
    have e9 : m.tdiv 10 = m / 10 := Int.tdiv_eq_ediv_of_nonneg m0
    have ea : m.tmod 10 = m % 10 := Int.tmod_eq_emod_of_nonneg m0
    have Q := Lib.hid (show monthL n = decL (y / 1000) ++ decL (y / 100 % 10) ++ decL (y / 10 % 10) ++ decL (y % 10) ++ [45] ++ decL (m / 10) ++ decL (m % 10) by
      obtain ⟨k, rfl⟩ := Int.eq_ofNat_of_zero_le h0
      rw [month_eq (by omega), ← hy, ← hm]
      rw [decL_small (z := (k : Int) / 12 / 1000) (by omega), decL_small (z := (k : Int) / 12 / 100 % 10) (by omega), decL_small (z := (k : Int) / 12 / 10 % 10) (by omega), decL_small (z := (k : Int) / 12 % 10) (by omega), decL_small (z := ((k : Int) % 12 + 1) / 10) (by omega), decL_small (z := ((k : Int) % 12 + 1) % 10) (by omega)]
      have t1 := toNat_dm k 12 100 10
      have t2 := toNat_dm k 12 10 10
      simp only [Int.cast_ofNat_Int] at t1 t2
      rw [show ((k : Int) / 12 / 1000).toNat = k / 12 / 1000 by omega, t1, t2, show ((k : Int) / 12 % 10).toNat = k / 12 % 10 by omega, show (((k : Int) % 12 + 1) / 10).toNat = (k % 12 + 1) / 10 by omega, show (((k : Int) % 12 + 1) % 10).toNat = (k % 12 + 1) % 10 by omega]
      rfl)
    go_enter Tryz.func122, Tryz.ntmps122
    go_wp2_with fail
    refine (spec_l01Dec_int (y / 1000) (by omega) (by omega) _).mono ?_
    rintro e w1 ⟨rfl, hb1⟩
    have HB1 := Lib.hid (hb1); clear hb1
    have z1 := decS_len (n := y / 1000) (by omega)
    go_wp2_with fail
    refine (spec_l01Dec_int (y / 100 % 10) (by omega) (by omega) _).mono ?_
    rintro e w2 ⟨rfl, hb2⟩
    have HB2 := Lib.hid (HB1.out.trans (hb2.mono HB1.out.size)); clear hb2
    have z2 := decS_len (n := y / 100 % 10) (by omega)
    go_wp2_with fail
    refine (spec_l01Dec_int (y / 10 % 10) (by omega) (by omega) _).mono ?_
    rintro e w3 ⟨rfl, hb3⟩
    have HB3 := Lib.hid (HB2.out.trans (hb3.mono HB2.out.size)); clear hb3
    have z3 := decS_len (n := y / 10 % 10) (by omega)
    go_wp2_with fail
    refine (spec_l01Dec_int (y % 10) (by omega) (by omega) _).mono ?_
    rintro e w4 ⟨rfl, hb4⟩
    have HB4 := Lib.hid (HB3.out.trans (hb4.mono HB3.out.size)); clear hb4
    have z4 := decS_len (n := y % 10) (by omega)
    go_wp2_with fail
    refine (spec_l01Dec_int (m / 10) (by omega) (by omega) _).mono ?_
    rintro e w5 ⟨rfl, hb5⟩
    have HB5 := Lib.hid (HB4.out.trans (hb5.mono HB4.out.size)); clear hb5
    have z5 := decS_len (n := m / 10) (by omega)
    go_wp2_with fail
    refine (spec_l01Dec_int (m % 10) (by omega) (by omega) _).mono ?_
    rintro e w6 ⟨rfl, hb6⟩
    have HB6 := Lib.hid (HB5.out.trans (hb6.mono HB5.out.size)); clear hb6
    have z6 := decS_len (n := m % 10) (by omega)
    go_wp2
    go_ret
    refine ⟨?_, HB6.out⟩
    rw [Q.out]
    show Ending.returned (.string (S (decL (y / 1000)) ++ S (decL (y / 100 % 10)) ++ S (decL (y / 10 % 10)) ++ S (decL (y % 10)) ++ S [45] ++ S (decL (m / 10)) ++ S (decL (m % 10)))) = _
    simp only [S_append]
end Go.Proofs.YtlbllonpodckgaaGreatDoor
