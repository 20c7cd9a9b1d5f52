/- The discounts of a rate: the program's list and the reference's single one. -/
import Derived.Test.YtlbllonpodckgaaGreatDoorNum
import Derived.Test.YtlbllonpodckgaaGreatDoorStInt
import Derived.Test.YtlbllonpodckgaaGreatDoorBase2
namespace Go.Proofs.YtlbllonpodckgaaGreatDoor
open Go.RowKit Go.BigFrame

def disc (rate : Int) : Nat → Int
  | 0 => 1000000000
  | k + 1 => disc rate k * 1000 / (1000 + rate)
theorem disc_bound {rate : Int} (hr : 0 ≤ rate) : ∀ k : Nat, 0 ≤ disc rate k ∧ disc rate k ≤ 1000000000
  | 0 => by simp [disc]
  | k + 1 => by
    obtain ⟨h1, h2⟩ := disc_bound hr k
    simp only [disc]
    refine ⟨Int.ediv_nonneg (by omega) (by omega), ?_⟩
    have h3 : disc rate k * 1000 / (1000 + rate) ≤ disc rate k * (1000 + rate) / (1000 + rate) := Int.ediv_le_ediv (by omega) (Int.mul_le_mul_of_nonneg_left (by omega) h1)
    rw [Int.mul_ediv_cancel _ (by omega)] at h3
    omega
def discL (rate : Int) (n : Nat) : List Int := (List.range n).map (disc rate)
theorem discL_succ (rate : Int) (k : Nat) : discL rate (k + 1) = discL rate k ++ [disc rate k] := by simp [discL, List.range_succ]
theorem discL_get (rate : Int) {n k : Nat} (h : k < n) : (discL rate n)[k]? = some (disc rate k) := by simp [discL, h]
theorem discL_length (rate : Int) (n : Nat) : (discL rate n).length = n := by simp [discL]

set_option maxHeartbeats 1000000 in
theorem impl_discounts_any (rate : Int) (w : World) (hr : 0 ≤ rate ∧ rate ≤ 200) :
    Calls Tryz.prog 182 #[.int .i64 rate] w fun e w' => ∃ A' c', e = .returned (.slice A' 121 c') ∧ Res w.heap.size w' 2 1 A' 121 c' (intRows (discL rate 121)) ∧ Below w.heap.size w w' := by
  obtain ⟨i0, hi0, hz0, hz1, hz2⟩ := info_parts Int64.info
  have HI := Lib.hid (And.intro hi0 (And.intro hz0 (And.intro hz1 hz2))); clear hi0 hz0 hz1 hz2
  obtain ⟨r1, r2⟩ := hr
  have HR0 := Lib.hid (Res.zero w w.heap.size 2 1 (Nat.le_refl _))
  have HD := Lib.hid (disc_bound r1)
  have hz : ¬ 1000 + rate = 0 := by omega
  go_enter Tryz.func182, Tryz.ntmps182
  go_wp2
  go_loopw [3, 4, 6] (fun o d i wr => ∃ (k : Nat) (A' : Option Addr) (c' : Nat), k ≤ 121 ∧ i = .int .i64 k ∧ d = .int .i64 (disc rate k) ∧ o = .slice A' k c' ∧ Res w.heap.size wr 2 1 A' k c' (intRows (discL rate k)) ∧ Below w.heap.size w wr) (fun _ _ i _ => 121 - (intOf i).toNat)
  case atStart => exact ⟨0, _, _, by omega, rfl, rfl, rfl, HR0.out, (Below.refl _ _).alloc (Nat.le_refl _) _⟩
  case round =>
    obtain ⟨k, A', c', hk, rfl, rfl, rfl, hR, hb⟩ := hrel
    have HR := Lib.hid hR; clear hR
    by_cases hlt : k < 121
    · have hd := HD.out k
      obtain ⟨d1, d2⟩ := hd
      have hlt' : (k : Int) < 121 := by omega
      have hsz : w.heap.size ≤ wr.heap.size := hb.size
      go_wp2_with (at_builtin; refine wpList_append_row wr rfl (.tmp 8) (.tmp 10) 38 rfl w.heap.size 2 i0 _ 1 8 Tryz.underlying38 HI.out.1 HI.out.2.1 HI.out.2.2.1 HI.out.2.2.2 rfl (by decide) (by decide) A' k c' _ rfl HR.out [.int .i64 (disc rate k)] _ rfl rfl (by simp [Value.oneCell']) (by omega) hsz ?_)
      intro B2 c2 w3 hR3 hb5
      have HR3 := Lib.hid hR3; clear hR3
      have hb6 : Below w.heap.size w w3 := hb.trans hb5
      go_wp2
      go_roundw
      case rel => exact ⟨k + 1, B2, c2, by omega, by go_num, rfl, rfl, by rw [discL_succ, intRows_snoc]; exact HR3.out, hb6⟩
      case measure => simp [intOf]; omega
    · have hkn : k = 121 := by omega
      subst hkn
      go_wp2
      go_ret
      exact ⟨A', c', rfl, HR.out, hb⟩

theorem spec_l04Discount_nat (rate : Int) (n : Nat) (w : World) (hr : 0 ≤ rate ∧ rate ≤ 200) (hn : n ≤ 1000) :
    Calls Tryz.prog 145 #[.int .i64 rate, .int .i64 n] w fun e w' => e = .returned (.int .i64 (disc rate n)) ∧ w = w' := by
  obtain ⟨r1, r2⟩ := hr
  have HD := Lib.hid (disc_bound r1)
  have hz : ¬ 1000 + rate = 0 := by omega
  go_enter Tryz.func145, Tryz.ntmps145
  go_wp2
  go_loop [5, 6] (fun d i => ∃ k : Nat, k ≤ n ∧ i = .int .i64 k ∧ d = .int .i64 (disc rate k)) (fun _ i => n - (intOf i).toNat)
  case atStart => exact ⟨0, by omega, rfl, rfl⟩
  case round =>
    obtain ⟨k, hk, rfl, rfl⟩ := hrel
    by_cases hlt : k < n
    · have hd := HD.out k
      obtain ⟨d1, d2⟩ := hd
      go_wp2
      go_round
      case rel => exact ⟨k + 1, by omega, by go_num, rfl⟩
      case measure => simp [intOf]; omega
    · have hkn : k = n := by omega
      subst hkn
      go_wp2
      go_ret
      exact ⟨rfl, rfl⟩
theorem spec_l04Discount_any (rate y : Int) (w : World) (hr : 0 ≤ rate ∧ rate ≤ 200) (hy : 0 ≤ y ∧ y ≤ 1000) :
    Calls Tryz.prog 145 #[.int .i64 rate, .int .i64 y] w fun e w' => e = .returned (.int .i64 (disc rate y.toNat)) ∧ w = w' := by
  obtain ⟨n, rfl⟩ := Int.eq_ofNat_of_zero_le hy.1
  rw [Int.toNat_natCast]
  exact spec_l04Discount_nat rate n w hr (by omega)
end Go.Proofs.YtlbllonpodckgaaGreatDoor
