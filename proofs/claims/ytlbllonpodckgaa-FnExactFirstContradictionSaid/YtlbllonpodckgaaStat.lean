/- Statutes: which rules are valid, which rule decides a case: the program's and the reference's contracts over one plain function each. -/
import Derived.Test.YtlbllonpodckgaaNum
import Derived.Test.YtlbllonpodckgaaList
import Derived.Test.YtlbllonpodckgaaStRule
import Derived.Test.YtlbllonpodckgaaStCase
namespace Go.Proofs.Ytlbllonpodckgaa
open Go.RowKit Go.BigFrame

def ruleB (r : Rule) : Bool := inR r.ageFrom 0 r.ageTo && (decide (r.ageTo ≤ 150) && (inR r.yearsFrom 0 r.yearsTo && (decide (r.yearsTo ≤ 99) && (inR r.kinds 1 15 && inR r.outcome 0 9))))
def statutesB (xs : List Rule) : Bool := xs.all ruleB && inR xs.length 1 20

set_option maxHeartbeats 1000000 in
theorem impl_isRule_any (r : Rule) (w : World) :
    Calls Try.prog 60 #[.agg r.row.toArray] w fun e w' => e = .returned (.bool (ruleB r)) ∧ Below w.heap.size w w' := by
  unfold Rule.row
  go_enter Try.func60, Try.ntmps60
  go_wp2_with (first | (go_at_call 38; refine (impl_inRange_any _ _ _ _).mono ?_; rintro e w' ⟨rfl, rfl⟩))
  all_goals (go_ret; exact ⟨by simp_all [ruleB] <;> (intros; omega), (Below.refl _ _).alloc (Nat.le_refl _) _⟩)
set_option maxHeartbeats 1000000 in
theorem spec_l23Rule_any (r : Rule) (w : World) :
    Calls Try.prog 58 #[.agg r.row.toArray] w fun e w' => e = .returned (.bool (ruleB r)) ∧ Below w.heap.size w w' := by
  unfold Rule.row
  go_enter Try.func58, Try.ntmps58
  go_wp2_with (first | (go_at_call 35; refine (spec_l01In_any _ _ _ _).mono ?_; rintro e w' ⟨rfl, rfl⟩))
  all_goals (go_ret; exact ⟨by simp_all [ruleB] <;> (intros; omega), (Below.refl _ _).alloc (Nat.le_refl _) _⟩)

theorem rulesLen_any (A : Option Addr) (n cap : Nat) (w : World) :
    Calls Try.prog 61 #[.slice A n cap] w fun e w' => e = .returned (.int .i64 n) ∧ w = w' := by
  go_enter Try.func61, Try.ntmps61
  go_wp2
  go_ret
  exact ⟨rfl, rfl⟩

set_option maxHeartbeats 1000000 in
theorem impl_AreStatutes_any (A : Option Addr) (n cap : Nat) (xs : List Rule) (w : World) (hl : xs.length = n) (hn : n ≤ 1048576) (hX : Rd w w.heap.size A 6 (ruleRows xs)) (_hf : ∀ x ∈ xs, x.fits) :
    Calls Try.prog 31 #[.slice A n cap] w fun e w' => e = .returned (.bool (statutesB xs)) ∧ Below w.heap.size w w' := by
  have HX := Lib.hid hX; clear hX
  have HL := Lib.hid hl; clear hl
  go_enter Try.func31, Try.ntmps31
  go_wp2
  go_loopw [7] (fun i wr => ∃ k : Nat, k ≤ n ∧ i = .int .i64 k ∧ (xs.take k).all ruleB = true ∧ Below w.heap.size w wr) (fun i _ => n - (intOf i).toNat)
  case atStart => exact ⟨0, by omega, rfl, rfl, Below.refl _ _⟩
  case round =>
    obtain ⟨k, hk, rfl, hall, hb⟩ := hrel
    have HA := Lib.hid hall; clear hall
    by_cases hlt : k < n
    · obtain ⟨x, hx⟩ := get_of_lt (xs := xs) (k := k) (by rw [HL.out]; exact hlt)
      obtain ⟨ad, rfl, had, _, hc⟩ := (HX.out.below hb).at' (ruleRows_get hx)
      have Hc := Lib.hid hc; clear hc
      have Hx := Lib.hid hx; clear hx
      go_wp2_with (first | (refine wpList_load_agg rfl 58 _ rfl (ad.add (k * 6)) rfl [.int .i64 x.ageFrom, .int .i64 x.ageTo, .int .i64 x.yearsFrom, .int .i64 x.yearsTo, .int .i64 x.kinds, .int .i64 x.outcome] Hc.out _ Try.underlying58 rfl Rule.size ?_))
      refine (impl_isRule_any x _).mono ?_
      rintro e w1 ⟨rfl, hb1⟩
      have hb2 : Below w.heap.size w w1 := (hb.alloc hb.size _).trans (hb1.mono (by simp; have := hb.size; omega))
      by_cases hp : ruleB x = true
      · go_wp2
        go_roundw
        case rel => exact ⟨k + 1, by omega, by go_num, all_succ HA.out Hx.out hp, hb2⟩
        case measure => simp [intOf]; omega
      · have hp' : ruleB x = false := by simpa using hp
        clear hp
        go_wp2
        go_ret
        exact ⟨by rw [statutesB, all_stop Hx.out hp']; simp, hb2⟩
    · have hkn : k = n := by omega
      subst hkn
      go_wp2_with (first | (go_at_call 61; refine (rulesLen_any _ _ _ _).mono ?_; rintro e w' ⟨rfl, rfl⟩) | (go_at_call 38; refine (impl_inRange_any _ _ _ _).mono ?_; rintro e w' ⟨rfl, rfl⟩))
      go_ret
      exact ⟨by rw [statutesB, all_end HL.out HA.out, HL.out]; simp, hb⟩
set_option maxHeartbeats 1000000 in
theorem spec_AreStatutes_any (A : Option Addr) (n cap : Nat) (xs : List Rule) (w : World) (hl : xs.length = n) (hn : n ≤ 1048576) (hX : Rd w w.heap.size A 6 (ruleRows xs)) (_hf : ∀ x ∈ xs, x.fits) :
    Calls Try.prog 28 #[.slice A n cap] w fun e w' => e = .returned (.bool (statutesB xs)) ∧ Below w.heap.size w w' := by
  have HX := Lib.hid hX; clear hX
  have HL := Lib.hid hl; clear hl
  go_enter Try.func28, Try.ntmps28
  go_wp2
  go_loopw [3] (fun i wr => ∃ k : Nat, k ≤ n ∧ i = .int .i64 k ∧ (xs.take k).all ruleB = true ∧ Below w.heap.size w wr) (fun i _ => n - (intOf i).toNat)
  case atStart => exact ⟨0, by omega, rfl, rfl, Below.refl _ _⟩
  case round =>
    obtain ⟨k, hk, rfl, hall, hb⟩ := hrel
    have HA := Lib.hid hall; clear hall
    by_cases hlt : k < n
    · obtain ⟨x, hx⟩ := get_of_lt (xs := xs) (k := k) (by rw [HL.out]; exact hlt)
      obtain ⟨ad, rfl, had, _, hc⟩ := (HX.out.below hb).at' (ruleRows_get hx)
      have Hc := Lib.hid hc; clear hc
      have Hx := Lib.hid hx; clear hx
      go_wp2_with (first | (refine wpList_load_agg rfl 58 _ rfl (ad.add (k * 6)) rfl x.row Hc.out _ Try.underlying58 rfl Rule.size ?_))
      refine (spec_l23Rule_any x _).mono ?_
      rintro e w1 ⟨rfl, hb1⟩
      have hb2 : Below w.heap.size w w1 := hb.trans (hb1.mono hb.size)
      by_cases hp : ruleB x = true
      · go_wp2
        go_roundw
        case rel => exact ⟨k + 1, by omega, by go_num, all_succ HA.out Hx.out hp, hb2⟩
        case measure => simp [intOf]; omega
      · have hp' : ruleB x = false := by simpa using hp
        clear hp
        go_wp2
        go_ret
        exact ⟨by rw [statutesB, all_stop Hx.out hp']; simp, hb2⟩
    · have hkn : k = n := by omega
      subst hkn
      go_wp2
      all_goals (go_ret; exact ⟨by rw [statutesB, all_end HL.out HA.out, HL.out]; simp [inR]; omega, hb⟩)
end Go.Proofs.Ytlbllonpodckgaa
