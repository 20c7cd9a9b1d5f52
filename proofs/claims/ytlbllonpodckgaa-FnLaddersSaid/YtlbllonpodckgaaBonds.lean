/- Bonds: which lists are bonds: the program's and the reference's contracts over one plain function. -/
import Derived.Test.YtlbllonpodckgaaNum
import Derived.Test.YtlbllonpodckgaaList
import Derived.Test.YtlbllonpodckgaaStBond
namespace Go.Proofs.Ytlbllonpodckgaa
open Go.RowKit Go.BigFrame

def bondB (b : Bond) : Bool := inR b.nominal 1 1000000000 && (inR b.coupon 0 200 && inR b.years 1 40)
def bondsB (xs : List Bond) : Bool := decide (xs.length ≤ 30) && xs.all bondB
theorem bondsB_any (xs : List Bond) : bondsB xs = (decide (xs.length ≤ 30) && !xs.any fun b => !bondB b) := by
  unfold bondsB; congr 1; induction xs with
  | nil => rfl
  | cons x r ih => simp [ih]

set_option maxHeartbeats 1000000 in
theorem impl_AreBonds1_any (b : Bond) (w : World) :
    Calls Try.prog 57 #[.agg b.row.toArray] w fun e w' => e = .returned (.bool (!bondB b)) ∧ Below w.heap.size w w' := by
  unfold Bond.row
  go_enter Try.func57, Try.ntmps57
  go_wp2_with (first | (go_at_call 38; refine (impl_inRange_any _ _ _ _).mono ?_; rintro e w' ⟨rfl, rfl⟩))
  all_goals (go_ret; exact ⟨by simp_all [bondB], (Below.refl _ _).alloc (Nat.le_refl _) _⟩)

set_option maxHeartbeats 1000000 in
theorem indexBonds_any (A : Option Addr) (n cap : Nat) (xs : List Bond) (w : World) (hl : xs.length = n) (hn : n ≤ 1048576) (hX : Rd w w.heap.size A 3 (bondRows xs)) :
    Calls Try.prog 73 #[.slice A n cap, .func (.func 57) #[] #[]] w fun e w' => ∃ i : Int, e = .returned (.int .i64 i) ∧ (xs.any (fun b => !bondB b) = decide (0 ≤ i)) ∧ Below w.heap.size w w' := by
  have HX := Lib.hid hX; clear hX
  have HL := Lib.hid hl; clear hl
  go_enter Try.func73, Try.ntmps73
  go_wp2
  go_loopw [8] (fun i wr => ∃ k : Nat, k ≤ n ∧ i = .int .i64 k ∧ (xs.take k).any (fun b => !bondB b) = false ∧ Below w.heap.size w wr) (fun i _ => n - (intOf i).toNat)
  case atStart => exact ⟨0, by omega, rfl, rfl, Below.refl _ _⟩
  case round =>
    obtain ⟨k, hk, rfl, hany, hb⟩ := hrel
    have HA := Lib.hid hany; clear hany
    by_cases hlt : k < n
    · obtain ⟨x, hx⟩ := get_of_lt (xs := xs) (k := k) (by rw [HL.out]; exact hlt)
      obtain ⟨ad, rfl, had, _, hc⟩ := (HX.out.below hb).at' (bondRows_get hx)
      have Hc := Lib.hid hc; clear hc
      have Hx := Lib.hid hx; clear hx
      go_wp2_with (refine wpList_load_agg rfl 66 _ rfl (ad.add (k * 3)) rfl x.row Hc.out _ Try.underlying66 rfl Bond.size ?_)
      refine (impl_AreBonds1_any x _).mono ?_
      rintro e w1 ⟨rfl, hb1⟩
      have hb2 : Below w.heap.size w w1 := hb.trans (hb1.mono hb.size)
      by_cases hp : bondB x = true
      · go_wp2
        go_roundw
        case rel => exact ⟨k + 1, by omega, by go_num, any_succ HA.out Hx.out (by simp [hp]), hb2⟩
        case measure => simp [intOf]; omega
      · have hp' : bondB x = false := by simpa using hp
        clear hp
        go_wp2
        go_ret
        exact ⟨_, rfl, by rw [any_stop Hx.out (by simp [hp'])]; simp, hb2⟩
    · have hkn : k = n := by omega
      subst hkn
      go_wp2
      go_ret
      exact ⟨_, rfl, by rw [any_end HL.out HA.out]; simp, hb⟩

theorem containsBonds_any (A : Option Addr) (n cap : Nat) (xs : List Bond) (w : World) (hl : xs.length = n) (hn : n ≤ 1048576) (hX : Rd w w.heap.size A 3 (bondRows xs)) :
    Calls Try.prog 56 #[.slice A n cap, .func (.func 57) #[] #[]] w fun e w' => e = .returned (.bool (xs.any fun b => !bondB b)) ∧ Below w.heap.size w w' := by
  have HX := Lib.hid hX; clear hX
  have HL := Lib.hid hl; clear hl
  go_enter Try.func56, Try.ntmps56
  go_wp2_with fail
  refine (indexBonds_any A n cap xs w HL.out hn HX.out).mono ?_
  rintro e w1 ⟨i, rfl, hi, hb⟩
  have Hi := Lib.hid hi; clear hi
  go_wp2
  go_ret
  exact ⟨by rw [Hi.out]; rfl, hb⟩

theorem impl_AreBonds_any (A : Option Addr) (n cap : Nat) (xs : List Bond) (w : World) (hl : xs.length = n) (hn : n ≤ 1048576) (hX : Rd w w.heap.size A 3 (bondRows xs)) (_hf : ∀ x ∈ xs, x.fits) :
    Calls Try.prog 27 #[.slice A n cap] w fun e w' => e = .returned (.bool (bondsB xs)) ∧ Below w.heap.size w w' := by
  rw [bondsB_any]
  have HX := Lib.hid hX; clear hX
  by_cases h : n ≤ 30
  · have e : (decide (xs.length ≤ 30) && !xs.any fun b => !bondB b) = !xs.any fun b => !bondB b := by simp [hl, h]
    rw [e]
    have HL := Lib.hid hl; clear hl e
    go_enter Try.func27, Try.ntmps27
    go_wp2_with fail
    refine (containsBonds_any A n cap xs w HL.out hn HX.out).mono ?_
    rintro e w1 ⟨rfl, hb⟩
    go_wp2
    go_ret
    exact ⟨rfl, hb⟩
  · have e : (decide (xs.length ≤ 30) && !xs.any fun b => !bondB b) = false := by simp [hl, h]
    rw [e]
    have HL := Lib.hid hl; clear hl e
    go_enter Try.func27, Try.ntmps27
    go_wp2
    go_ret
    exact ⟨rfl, Below.refl _ _⟩

set_option maxHeartbeats 1000000 in
theorem spec_AreBonds_any (A : Option Addr) (n cap : Nat) (xs : List Bond) (w : World) (hl : xs.length = n) (hn : n ≤ 1048576) (hX : Rd w w.heap.size A 3 (bondRows xs)) (_hf : ∀ x ∈ xs, x.fits) :
    Calls Try.prog 70 #[.slice A n cap] w fun e w' => e = .returned (.bool (bondsB xs)) ∧ Below w.heap.size w w' := by
  have HX := Lib.hid hX; clear hX
  have HL := Lib.hid hl; clear hl
  go_enter Try.func70, Try.ntmps70
  go_wp2
  go_loopw [3] (fun i wr => ∃ k : Nat, k ≤ n ∧ i = .int .i64 k ∧ (xs.take k).all bondB = true ∧ Below w.heap.size w wr) (fun i _ => n - (intOf i).toNat)
  case atStart => exact ⟨0, by omega, rfl, rfl, Below.refl _ _⟩
  case round =>
    obtain ⟨k, hk, rfl, hall, hb⟩ := hrel
    have HA := Lib.hid hall; clear hall
    by_cases hlt : k < n
    · obtain ⟨x, hx⟩ := get_of_lt (xs := xs) (k := k) (by rw [HL.out]; exact hlt)
      obtain ⟨ad, rfl, had, _, hc⟩ := (HX.out.below hb).at' (bondRows_get hx)
      have Hc := Lib.hid hc; clear hc
      have Hx := Lib.hid hx; clear hx
      by_cases hp : bondB x = true
      · have hq := hp
        simp only [bondB, Bool.and_eq_true] at hq
        obtain ⟨hq1, hq2, hq3⟩ := hq
        go_wp2_with (first | (refine wpList_load_agg rfl 66 _ rfl (ad.add (k * 3)) rfl [.int .i64 x.nominal, .int .i64 x.coupon, .int .i64 x.years] Hc.out _ Try.underlying66 rfl Bond.size ?_) | (go_at_call 35; refine (spec_l01In_any _ _ _ _).mono ?_; rintro e w' ⟨rfl, rfl⟩))
        go_roundw
        case rel => exact ⟨k + 1, by omega, by go_num, all_succ HA.out Hx.out hp, hb.alloc hb.size _⟩
        case measure => simp [intOf]; omega
      · have hp' : bondB x = false := by simpa using hp
        clear hp
        have Hp := Lib.hid hp'; clear hp'
        go_wp2_with (first | (refine wpList_load_agg rfl 66 _ rfl (ad.add (k * 3)) rfl [.int .i64 x.nominal, .int .i64 x.coupon, .int .i64 x.years] Hc.out _ Try.underlying66 rfl Bond.size ?_) | (go_at_call 35; refine (spec_l01In_any _ _ _ _).mono ?_; rintro e w' ⟨rfl, rfl⟩))
        all_goals first
          | (go_ret; exact ⟨by rw [bondsB, all_stop Hx.out Hp.out]; simp, hb.alloc hb.size _⟩)
          | (exfalso; have := Hp.out; simp_all [bondB])
    · have hkn : k = n := by omega
      subst hkn
      go_wp2
      go_ret
      exact ⟨by rw [bondsB, all_end HL.out HA.out, HL.out]; simp; omega, hb⟩
end Go.Proofs.Ytlbllonpodckgaa
