/- Texts of numbers are read: what ParseInt makes of digits. No program in sight. -/
import Derived.Test.YtlbllonpodckgaaGreatDoorTextP
import Derived.Test.YtlbllonpodckgaaGreatDoorLaw
import Derived.Lib.ParseIntB
namespace Go.Proofs.YtlbllonpodckgaaGreatDoor
open Go.RowKit Go.BigFrame

def DigitsL (l : List UInt8) : Prop := ∀ c ∈ l, 48 ≤ c.toNat ∧ c.toNat ≤ 57
def valL (acc : Nat) (l : List UInt8) : Nat := l.foldl (fun a c => a * 10 + (c.toNat - 48)) acc
theorem valL_ge : ∀ (l : List UInt8) (acc : Nat), acc ≤ valL acc l
  | [], acc => Nat.le_refl _
  | c :: r, acc => by
    have := valL_ge r (acc * 10 + (c.toNat - 48))
    show acc ≤ valL (acc * 10 + (c.toNat - 48)) r
    omega
theorem valL_append (a b : List UInt8) (acc : Nat) : valL acc (a ++ b) = valL (valL acc a) b := by simp [valL]
theorem dg_toNat {n : Nat} (h : n < 10) : (dg n).toNat = 48 + n := by unfold dg; rw [UInt8.toNat_ofNat']; omega
theorem dg_digit {n : Nat} (h : n < 10) : 48 ≤ (dg n).toNat ∧ (dg n).toNat ≤ 57 := by rw [dg_toNat h]; omega
theorem dec_digits (n : Nat) : DigitsL (Lib.decDigits n) ∧ valL 0 (Lib.decDigits n) = n := by
  induction n using Nat.strongRecOn with
  | _ n ih =>
    by_cases h : n < 10
    · rw [dec_small h]
      refine ⟨fun c hc => by simp at hc; subst hc; exact dg_digit h, ?_⟩
      show 0 * 10 + ((dg n).toNat - 48) = n
      rw [dg_toNat h]; omega
    · obtain ⟨h1, h2⟩ := ih (n / 10) (by omega)
      rw [dec_big h]
      refine ⟨fun c hc => ?_, ?_⟩
      · rcases List.mem_append.1 hc with h' | h'
        · exact h1 c h'
        · simp at h'; subst h'; exact dg_digit (by omega)
      · rw [valL_append, h2]
        show n / 10 * 10 + ((dg (n % 10)).toNat - 48) = n
        rw [dg_toNat (by omega)]; omega
theorem valL_zeros : ∀ k : Nat, valL 0 (List.replicate k 48) = 0
  | 0 => rfl
  | k + 1 => valL_zeros k
theorem pad_digits (k n : Nat) : DigitsL (padL k (Lib.decDigits n)) ∧ valL 0 (padL k (Lib.decDigits n)) = n := by
  obtain ⟨h1, h2⟩ := dec_digits n
  refine ⟨fun c hc => ?_, ?_⟩
  · rcases List.mem_append.1 hc with h' | h'
    · have := List.eq_of_mem_replicate h'
      subst this; decide
    · exact h1 c h'
  · rw [padL, valL_append, valL_zeros, h2]
theorem parseM_digits (M : Nat) (hM : 1000000000000000000 ≤ M) : ∀ (l : List UInt8) (acc : Nat), DigitsL l → valL acc l ≤ 1000000000000000000 → Lib.parseUintM M acc l = .ok (valL acc l)
  | [], acc, _, _ => rfl
  | c :: r, acc, h, hv => by
    have hc := h c (by simp)
    have hg := valL_ge r (acc * 10 + (c.toNat - 48))
    have hv' : valL (acc * 10 + (c.toNat - 48)) r ≤ 1000000000000000000 := hv
    rw [Lib.parseUintM, if_pos hc, if_neg (by omega), if_neg (by omega)]
    exact parseM_digits M hM r _ (fun x hx => h x (by simp [hx])) hv'
theorem parseInt_digits {l : List UInt8} (hne : l ≠ []) (hd : DigitsL l) (hv : valL 0 l ≤ 1000000000000000000) : Lib.parseIntB 64 l = .ok ((valL 0 l : Nat) : Int) := by
  match l, hne with
  | c :: r, _ =>
    have hc := hd c (by simp)
    have hp := parseM_digits (2 ^ 64 - 1) (by decide) (c :: r) 0 hd hv
    unfold Lib.parseIntB
    simp only
    rw [if_neg (show ¬ (c.toNat = 43 ∨ c.toNat = 45) by omega)]
    unfold Lib.parseUintB
    rw [if_neg (by simp), hp]
    simp only
    rw [if_neg (by intro hh; have := hh.2; simp at this; omega), if_neg (by intro hh; omega), if_neg (by omega)]
theorem parseInt_in : ∀ {l : List UInt8} {v : Int}, Lib.parseIntB 64 l = .ok v → In64 v
  | [], v, h => by cases h
  | c :: r, v, h => by
    unfold Lib.parseIntB at h
    simp only at h
    revert h
    generalize Lib.parseUintB 64 (if c.toNat = 43 ∨ c.toNat = 45 then r else c :: r) = q
    intro h
    match q, h with
    | .ok u, h =>
      simp only at h
      split at h
      · cases h
      · rename_i h1
        split at h
        · cases h
        · rename_i h2
          injection h with h
          subst h
          unfold In64
          split
          · rename_i h3
            have : u ≤ 2 ^ 63 := by
              rcases Nat.lt_or_ge (2 ^ 63) u with h4 | h4
              · exact absurd ⟨h3, h4⟩ h2
              · exact h4
            omega
          · rename_i h3
            have : u < 2 ^ 63 := by
              rcases Nat.lt_or_ge u (2 ^ 63) with h4 | h4
              · exact h4
              · exact absurd ⟨h3, h4⟩ h1
            omega
theorem intSat_in (l : List UInt8) : In64 (Lib.intSat 64 l) := by unfold Lib.intSat In64; split <;> simp
theorem str_ne {a b : ByteArray} (h : ¬ a = b) : (a.toList == b.toList) = false := by
  rw [ByteArray.toList_eq, ByteArray.toList_eq]
  refine beq_eq_false_iff_ne.2 fun hh => h ?_
  rw [← S_of a, ← S_of b, hh]
theorem str_eq {a b : ByteArray} (h : a = b) : (a.toList == b.toList) = true := by subst h; simp
end Go.Proofs.YtlbllonpodckgaaGreatDoor
