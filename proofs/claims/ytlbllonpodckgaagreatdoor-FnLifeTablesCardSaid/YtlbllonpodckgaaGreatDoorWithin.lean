/- Lists of numbers within bounds: the program's and the reference's contracts. -/
import Derived.Test.YtlbllonpodckgaaGreatDoorNum
import Derived.Test.YtlbllonpodckgaaGreatDoorList
import Derived.Test.YtlbllonpodckgaaGreatDoorStInt
namespace Go.Proofs.YtlbllonpodckgaaGreatDoor
open Go.RowKit Go.BigFrame

theorem allIn1_any (x lo hi : Int) (p q : Addr) (w : World) (hp : w.cell? p = some (.int .i64 lo)) (hq : w.cell? q = some (.int .i64 hi)) :
    Calls Tryz.prog 151 #[.int .i64 x, .pointer (some p), .pointer (some q)] w fun e w' => e = .returned (.bool (!inR x lo hi)) ∧ w = w' := by
  go_enter Tryz.func151, Tryz.ntmps151
  go_wp2_with (first | (go_at_call 94; refine (impl_inRange_any _ _ _ _).mono ?_; rintro e w' ⟨rfl, rfl⟩))
  go_ret
  exact ⟨rfl, rfl⟩

set_option maxHeartbeats 1000000 in
theorem indexIn_any (A : Option Addr) (n cap : Nat) (xs : List Int) (lo hi : Int) (p q : Addr) (w : World) (hl : xs.length = n) (hn : n ≤ 1048576) (hX : Rd w w.heap.size A 1 (intRows xs)) (hp : w.cell? p = some (.int .i64 lo)) (hq : w.cell? q = some (.int .i64 hi)) :
    Calls Tryz.prog 187 #[.slice A n cap, .func (.func 151) #[] #[.pointer (some p), .pointer (some q)]] w fun e w' => ∃ i : Int, e = .returned (.int .i64 i) ∧ (xs.any (fun x => !inR x lo hi) = decide (0 ≤ i)) ∧ w = w' := by
  have HX := Lib.hid hX; clear hX
  have HL := Lib.hid hl; clear hl
  go_enter Tryz.func187, Tryz.ntmps187
  go_wp2
  go_loop [8] (fun i => ∃ k : Nat, k ≤ n ∧ i = .int .i64 k ∧ (xs.take k).any (fun x => !inR x lo hi) = false) (fun i => n - (intOf i).toNat)
  case atStart => exact ⟨0, by omega, rfl, rfl⟩
  case round =>
    obtain ⟨k, hk, rfl, hany⟩ := hrel
    have HA := Lib.hid hany; clear hany
    by_cases hlt : k < n
    · obtain ⟨x, hx⟩ := get_of_lt (xs := xs) (k := k) (by rw [HL.out]; exact hlt)
      obtain ⟨ad, rfl, had, hc⟩ := HX.out.int_at hx
      have Hx := Lib.hid hx; clear hx
      go_wp2_with fail
      refine (allIn1_any x lo hi p q _ hp hq).mono ?_
      rintro e w1 ⟨rfl, rfl⟩
      by_cases hb : inR x lo hi = true
      · go_wp2
        go_round
        case rel => exact ⟨k + 1, by omega, by go_num, any_succ HA.out Hx.out (by simp [hb])⟩
        case measure => simp [intOf]; omega
      · have hb' : inR x lo hi = false := by simpa using hb
        clear hb
        go_wp2
        go_ret
        exact ⟨_, rfl, by rw [any_stop Hx.out (by simp [hb'])]; simp, rfl⟩
    · have hkn : k = n := by omega
      subst hkn
      go_wp2
      go_ret
      exact ⟨_, rfl, by rw [any_end HL.out HA.out]; simp, rfl⟩

theorem containsIn_any (A : Option Addr) (n cap : Nat) (xs : List Int) (lo hi : Int) (p q : Addr) (w : World) (hl : xs.length = n) (hn : n ≤ 1048576) (hX : Rd w w.heap.size A 1 (intRows xs)) (hp : w.cell? p = some (.int .i64 lo)) (hq : w.cell? q = some (.int .i64 hi)) :
    Calls Tryz.prog 150 #[.slice A n cap, .func (.func 151) #[] #[.pointer (some p), .pointer (some q)]] w fun e w' => e = .returned (.bool (xs.any fun x => !inR x lo hi)) ∧ w = w' := by
  have HX := Lib.hid hX; clear hX
  have HL := Lib.hid hl; clear hl
  go_enter Tryz.func150, Tryz.ntmps150
  go_wp2_with fail
  refine (indexIn_any A n cap xs lo hi p q w HL.out hn HX.out hp hq).mono ?_
  rintro e w1 ⟨i, rfl, hi, rfl⟩
  have Hi := Lib.hid hi; clear hi
  go_wp2
  go_ret
  exact ⟨by rw [Hi.out]; rfl, rfl⟩

def allR (xs : List Int) (lo hi : Int) : Bool := xs.all fun x => inR x lo hi
theorem allR_any (xs : List Int) (lo hi : Int) : allR xs lo hi = !xs.any fun x => !inR x lo hi := by
  unfold allR
  induction xs with
  | nil => rfl
  | cons x r ih => simp [ih]

theorem impl_allIn_any (A : Option Addr) (n cap : Nat) (xs : List Int) (lo hi : Int) (w : World) (hl : xs.length = n) (hn : n ≤ 1048576) (hX : Rd w w.heap.size A 1 (intRows xs)) :
    Calls Tryz.prog 96 #[.slice A n cap, .int .i64 lo, .int .i64 hi] w fun e w' => e = .returned (.bool (allR xs lo hi)) ∧ Below w.heap.size w w' := by
  have hb : Below w.heap.size w ((w.alloc (.cells #[.int .i64 lo] 2)).alloc (.cells #[.int .i64 hi] 2)) := ((Below.refl _ w).alloc (Nat.le_refl _) _).alloc (by simp) _
  have HX := Lib.hid (hX.past hb); clear hX
  have HL := Lib.hid hl; clear hl
  rw [allR_any]
  go_enter Tryz.func96, Tryz.ntmps96
  go_wp2_with fail
  refine (containsIn_any A n cap xs lo hi ⟨w.heap.size, 0, none⟩ ⟨w.heap.size + 1, 0, none⟩ _ HL.out hn HX.out (by go_simp) (by go_simp)).mono ?_
  rintro e w1 ⟨rfl, rfl⟩
  go_wp2
  go_ret
  exact ⟨rfl, hb⟩

set_option maxHeartbeats 1000000 in
theorem spec_l01Within_any (A : Option Addr) (n cap : Nat) (xs : List Int) (m lo hi : Int) (w : World) (hl : xs.length = n) (hn : n ≤ 1048576) (hX : Rd w w.heap.size A 1 (intRows xs)) :
    Calls Tryz.prog 106 #[.slice A n cap, .int .i64 m, .int .i64 lo, .int .i64 hi] w fun e w' => e = .returned (.bool (allR xs lo hi && decide ((n : Int) ≤ m))) ∧ w = w' := by
  have HX := Lib.hid hX; clear hX
  have HL := Lib.hid hl; clear hl
  go_enter Tryz.func106, Tryz.ntmps106
  go_wp2
  go_loop [9] (fun i => ∃ k : Nat, k ≤ n ∧ i = .int .i64 k ∧ (xs.take k).all (fun x => inR x lo hi) = true) (fun i => n - (intOf i).toNat)
  case atStart => exact ⟨0, by omega, rfl, rfl⟩
  case round =>
    obtain ⟨k, hk, rfl, hany⟩ := hrel
    have HA := Lib.hid hany; clear hany
    by_cases hlt : k < n
    · obtain ⟨x, hx⟩ := get_of_lt (xs := xs) (k := k) (by rw [HL.out]; exact hlt)
      obtain ⟨ad, rfl, had, hc⟩ := HX.out.int_at hx
      have Hx := Lib.hid hx; clear hx
      by_cases hb : inR x lo hi = true
      · go_wp2_with (first | (go_at_call 121; refine (spec_l01In_any _ _ _ _).mono ?_; rintro e w' ⟨rfl, rfl⟩))
        go_round
        case rel => exact ⟨k + 1, by omega, by go_num, all_succ HA.out Hx.out hb⟩
        case measure => simp [intOf]; omega
      · have hb' : inR x lo hi = false := by simpa using hb
        clear hb
        go_wp2_with (first | (go_at_call 121; refine (spec_l01In_any _ _ _ _).mono ?_; rintro e w' ⟨rfl, rfl⟩))
        go_ret
        exact ⟨by rw [allR, all_stop Hx.out hb']; rfl, rfl⟩
    · have hkn : k = n := by omega
      subst hkn
      go_wp2
      go_ret
      exact ⟨by rw [allR, all_end HL.out HA.out]; rfl, rfl⟩
end Go.Proofs.YtlbllonpodckgaaGreatDoor
