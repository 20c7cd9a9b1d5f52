/- Which rule decides a case: the program's and the reference's contracts over one plain function each. -/
import Derived.Test.YtlbllonpodckgaaStat
import Derived.Test.YtlbllonpodckgaaBase2
namespace Go.Proofs.Ytlbllonpodckgaa
open Go.RowKit Go.BigFrame

def bitB (m k : Int) : Bool := (m / 2 ^ k.toNat).tmod 2 == 1
def appliesB (r : Rule) (c : Case) : Bool := inR c.age r.ageFrom r.ageTo && (inR c.years r.yearsFrom r.yearsTo && bitB r.kinds c.kind)
theorem kinds_of {r : Rule} (h : ruleB r = true) : 1 ≤ r.kinds ∧ r.kinds ≤ 15 := by
  simp [ruleB, inR] at h; omega
theorem bit_and {m k : Int} (hm : 1 ≤ m ∧ m ≤ 15) (hk : 0 ≤ k ∧ k ≤ 3) : (bits .and .i64 (m / 2 ^ k.toNat) 1 == 1) = bitB m k := by
  obtain ⟨m', rfl⟩ := Int.eq_ofNat_of_zero_le (show 0 ≤ m by omega)
  obtain ⟨k', rfl⟩ := Int.eq_ofNat_of_zero_le (show 0 ≤ k by omega)
  have key : ∀ a : Nat, a < 16 → ∀ b : Nat, b < 4 → (bits .and .i64 ((a : Int) / 2 ^ (b : Int).toNat) 1 == 1) = bitB a b := by decide +kernel
  exact key m' (by omega) k' (by omega)
def decidesI (xs : List Rule) (c : Case) : Int := match xs.findIdx? (appliesB · c) with
  | some i => i
  | none => -1
def caseB (c : Case) : Bool := inR c.age 0 150 && (inR c.years 0 99 && inR c.kind 0 3)
def decideP (xs : List Rule) (c : Case) : Int × Int × Int :=
  if statutesB xs then (if caseB c then (match xs.findIdx? (appliesB · c) with
    | some i => ((i : Int), ((xs[i]?).map (·.outcome)).getD 0, 0)
    | none => (0, 0, 4)) else (0, 0, 2)) else (0, 0, 1)
theorem statutes_rule {xs : List Rule} (h : statutesB xs = true) : ∀ x ∈ xs, ruleB x = true := by
  simp [statutesB] at h; exact h.1
theorem statutes_len {xs : List Rule} (h : statutesB xs = true) : 1 ≤ xs.length ∧ xs.length ≤ 20 := by
  simp [statutesB, inR] at h; omega

set_option maxHeartbeats 1000000 in
theorem impl_applies_any (r : Rule) (c : Case) (hr : ruleB r = true) (hc : 0 ≤ c.kind ∧ c.kind ≤ 3) (w : World) :
    Calls Try.prog 62 #[.agg r.row.toArray, .agg c.row.toArray] w fun e w' => e = .returned (.bool (appliesB r c)) ∧ Below w.heap.size w w' := by
  have hk := bit_and (kinds_of hr) hc
  unfold Rule.row Case.row
  go_enter Try.func62, Try.ntmps62
  go_wp2_with (first | (go_at_call 38; refine (impl_inRange_any _ _ _ _).mono ?_; rintro e w' ⟨rfl, rfl⟩))
  all_goals (go_ret; exact ⟨by simp_all [appliesB], ((Below.refl _ _).alloc (Nat.le_refl _) _).alloc (by simp) _⟩)
set_option maxHeartbeats 1000000 in
theorem spec_l23Applies_any (r : Rule) (c : Case) (_hr : ruleB r = true) (hc : 0 ≤ c.kind ∧ c.kind ≤ 3) (w : World) :
    Calls Try.prog 59 #[.agg r.row.toArray, .agg c.row.toArray] w fun e w' => e = .returned (.bool (appliesB r c)) ∧ Below w.heap.size w w' := by
  unfold Rule.row Case.row
  go_enter Try.func59, Try.ntmps59
  go_wp2_with (first | (go_at_call 35; refine (spec_l01In_any _ _ _ _).mono ?_; rintro e w' ⟨rfl, rfl⟩))
  all_goals (go_ret; exact ⟨by simp_all [appliesB, bitB], ((Below.refl _ _).alloc (Nat.le_refl _) _).alloc (by simp) _⟩)


theorem case_kind {c : Case} (h : inR c.kind 0 3 = true) : 0 ≤ c.kind ∧ c.kind ≤ 3 := inR_true.1 h

end Go.Proofs.Ytlbllonpodckgaa
