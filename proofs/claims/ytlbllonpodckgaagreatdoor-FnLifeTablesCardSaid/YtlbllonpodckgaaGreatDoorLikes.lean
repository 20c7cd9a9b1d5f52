/- The laws' own helpers: equal lists are like each other; the sum of a list. -/
import Derived.Test.YtlbllonpodckgaaGreatDoorNum
import Derived.Test.YtlbllonpodckgaaGreatDoorList
import Derived.Test.YtlbllonpodckgaaGreatDoorStInt
import Derived.Test.YtlbllonpodckgaaGreatDoorBase2
namespace Go.Proofs.YtlbllonpodckgaaGreatDoor
open Go.RowKit Go.BigFrame

theorem likeInts_any (A : Option Addr) (n cap : Nat) (A2 : Option Addr) (cap2 : Nat) (xs : List Int) (w : World) (hl : xs.length = n) (hn : n ≤ 1048576) (hX : Rd w w.heap.size A 1 (intRows xs)) (hX2 : Rd w w.heap.size A2 1 (intRows xs)) :
    Calls Tryz.prog 93 #[.slice A n cap, .slice A2 n cap2] w fun e w' => e = .returned (.bool true) ∧ Below w.heap.size w w' := by
  have HX := Lib.hid hX; clear hX
  have HX2 := Lib.hid hX2; clear hX2
  have HL := Lib.hid hl; clear hl
  go_enter Tryz.func93, Tryz.ntmps93
  go_wp2
  go_loopw [5] (fun i wr => ∃ k : Nat, k ≤ n ∧ i = .int .i64 k ∧ Below w.heap.size w wr) (fun i _ => n - (intOf i).toNat)
  case atStart => exact ⟨0, by omega, rfl, Below.refl _ _⟩
  case round =>
    obtain ⟨k, hk, rfl, hb⟩ := hrel
    by_cases hlt : k < n
    · obtain ⟨x, hx⟩ := get_of_lt (xs := xs) (k := k) (by rw [HL.out]; exact hlt)
      obtain ⟨ad, rfl, had, hc⟩ := (HX.out.past hb).int_at hx
      obtain ⟨ad2, rfl, had2, hc2⟩ := (HX2.out.past hb).int_at hx
      clear hx
      have d0 := fun y : Past wr => Past.cell hc y
      have d1 := fun y : Past wr => Past.cell hc2 y
      have hki : (k : Int) < (n : Int) := by omega
      clear hc hc2
      go_wp2
      refine wp_region_past (by kernel_rfl) (by kernel_rfl) ?_
      repeat (go_big_quiet_step (fail))
      refine wpQuiet_nil ?_
      rintro _ ⟨y, rfl⟩
      go_wp2
      go_roundw
      case rel => exact ⟨k + 1, by omega, by go_num, hb.trans (y.2.mono hb.size)⟩
      case measure => simp [intOf]; omega
    · have hki : ¬ (k : Int) < (n : Int) := by omega
      go_wp2
      go_ret
      exact ⟨rfl, hb⟩

def SumOk (xs : List Int) : Prop := ∀ k : Nat, -4000000000000000000 ≤ (xs.take k).sum ∧ (xs.take k).sum ≤ 4000000000000000000
theorem takeSum_snoc {xs : List Int} {k : Nat} {x : Int} (hx : xs[k]? = some x) : (xs.take (k + 1)).sum = (xs.take k).sum + x := by
  rw [take_succ_snoc hx]; simp
theorem sumOk_of {lo hi : Int} (h0 : lo ≤ 0) (h1 : 0 ≤ hi) {n : Nat} : ∀ (xs : List Int), xs.length ≤ n → (∀ x ∈ xs, lo ≤ x ∧ x ≤ hi) → lo * (n : Int) ≤ xs.sum ∧ xs.sum ≤ hi * (n : Int)
  | [], _, _ => by
    simp only [List.sum_nil]
    exact ⟨by have := Int.mul_nonneg (show 0 ≤ -lo by omega) (show (0 : Int) ≤ n by omega); rw [Int.neg_mul] at this; omega, Int.mul_nonneg h1 (by omega)⟩
  | x :: r, hl, h => by
    cases n with
    | zero => simp at hl
    | succ n =>
      obtain ⟨h2, h3⟩ := sumOk_of h0 h1 (n := n) r (by simpa using hl) fun y hy => h y (by simp [hy])
      have h4 := h x (by simp)
      simp only [List.sum_cons]
      have e1 : lo * ((n + 1 : Nat) : Int) = lo * (n : Int) + lo := by rw [Int.natCast_add, Int.mul_add]; simp
      have e2 : hi * ((n + 1 : Nat) : Int) = hi * (n : Int) + hi := by rw [Int.natCast_add, Int.mul_add]; simp
      omega
theorem SumOk.of {lo hi : Int} {xs : List Int} {n : Nat} (h0 : lo ≤ 0) (h1 : 0 ≤ hi) (hl : xs.length ≤ n) (h : ∀ x ∈ xs, lo ≤ x ∧ x ≤ hi) (hb : -4000000000000000000 ≤ lo * (n : Int) ∧ hi * (n : Int) ≤ 4000000000000000000) : SumOk xs := fun k => by
  have := sumOk_of h0 h1 (n := n) (xs.take k) (by simp; omega) fun x hx => h x (List.mem_of_mem_take hx)
  omega

end Go.Proofs.YtlbllonpodckgaaGreatDoor
