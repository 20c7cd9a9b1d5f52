/- Texts of numbers: decimal digits, digits up to a length, months, money: plain functions and their laws. -/
import Derived.Test.YtlbllonpodckgaaGreatDoorBase2
import Derived.Lib.ItoaNum
import Derived.Lib.Repeat
namespace Go.Proofs.YtlbllonpodckgaaGreatDoor
open Go.RowKit Go.BigFrame

/-- a string of bytes -/
def S (l : List UInt8) : ByteArray := ⟨l.toArray⟩
theorem S_append (a b : List UInt8) : S a ++ S b = S (a ++ b) := by
  apply ByteArray.ext
  simp [S, ByteArray.data_append]
theorem S_size (l : List UInt8) : (S l).size = l.length := by simp [S, ByteArray.size]
theorem S_list (l : List UInt8) : (S l).data.toList = l := by simp [S]
theorem S_of (s : ByteArray) : S s.data.toList = s := by simp [S]
theorem S_inj {a b : List UInt8} (h : S a = S b) : a = b := by
  have := congrArg (fun s => s.data.toList) h
  simpa [S] using this
def dg (n : Nat) : UInt8 := UInt8.ofNat (48 + n)
def decL (n : Int) : List UInt8 := Lib.decDigits n.toNat
theorem dec_small {n : Nat} (h : n < 10) : Lib.decDigits n = [dg n] := Lib.decDigits_one h
theorem dec_big {n : Nat} (h : ¬ n < 10) : Lib.decDigits n = Lib.decDigits (n / 10) ++ [dg (n % 10)] := by rw [Lib.decDigits, dif_neg h]; rfl
theorem dec_pos (n : Nat) : 1 ≤ (Lib.decDigits n).length := by rw [Lib.decDigits_length]; exact Lib.nDigits_pos n
theorem itoa_pos {n : Int} (h : 0 ≤ n) : Lib.itoa n = decL n := by unfold Lib.itoa decL; rw [if_neg (by omega)]
/-- zeros ahead, up to a length -/
def padL (k : Nat) (l : List UInt8) : List UInt8 := List.replicate (k - l.length) 48 ++ l
theorem pad_one (n : Nat) : padL 1 (Lib.decDigits n) = Lib.decDigits n := by
  have := dec_pos n
  unfold padL
  rw [show 1 - (Lib.decDigits n).length = 0 by omega]; rfl
theorem pad_succ (k n : Nat) : padL (k + 2) (Lib.decDigits n) = padL (k + 1) (Lib.decDigits (n / 10)) ++ [dg (n % 10)] := by
  unfold padL
  by_cases h : n < 10
  · rw [dec_small h, show n / 10 = 0 by omega, dec_small (show 0 < 10 by omega), Nat.mod_eq_of_lt h]
    simp only [List.length_cons, List.length_nil, List.append_assoc]
    rw [show k + 2 - (0 + 1) = k + 1 by omega, show k + 1 - (0 + 1) = k by omega, List.replicate_succ']
    simp [dg]
  · rw [dec_big h]
    simp only [List.length_append, List.length_cons, List.length_nil]
    rw [show k + 2 - ((Lib.decDigits (n / 10)).length + (0 + 1)) = k + 1 - (Lib.decDigits (n / 10)).length by omega, List.append_assoc]
theorem pad_two {n : Nat} (h : n < 100) : padL 2 (Lib.decDigits n) = [dg (n / 10), dg (n % 10)] := by
  rw [pad_succ 0 n, pad_one, dec_small (by omega)]; rfl
theorem pad_four {n : Nat} (h : n < 10000) : padL 4 (Lib.decDigits n) = [dg (n / 1000), dg (n / 100 % 10), dg (n / 10 % 10), dg (n % 10)] := by
  rw [pad_succ 2 n, pad_succ 1, pad_two (by omega), show n / 10 / 10 / 10 = n / 1000 by omega, show n / 10 / 10 % 10 = n / 100 % 10 by omega]
  rfl
def monthL (n : Int) : List UInt8 := padL 4 (decL (n / 12)) ++ [45] ++ padL 2 (decL (n % 12 + 1))
theorem month_eq {n : Nat} (h : n < 36000) : monthL (n : Int) = [dg (n / 12 / 1000), dg (n / 12 / 100 % 10), dg (n / 12 / 10 % 10), dg (n / 12 % 10), 45, dg ((n % 12 + 1) / 10), dg ((n % 12 + 1) % 10)] := by
  unfold monthL decL
  rw [show ((n : Int) / 12).toNat = n / 12 by omega, show ((n : Int) % 12 + 1).toNat = n % 12 + 1 by omega, pad_four (by omega), pad_two (by omega)]
  rfl
/-- the text of money of at least 0 -/
def moneyP (n : Int) : List UInt8 := decL (n / 100) ++ [46] ++ padL 2 (decL (n % 100))
def moneyL (n : Int) : List UInt8 := if n < 0 then 45 :: moneyP (-n) else moneyP n
theorem money_eq (n : Nat) : moneyP (n : Int) = Lib.decDigits (n / 100) ++ [46, dg (n / 10 % 10), dg (n % 10)] := by
  unfold moneyP decL
  rw [show ((n : Int) / 100).toNat = n / 100 by omega, show ((n : Int) % 100).toNat = n % 100 by omega, pad_two (by omega), List.append_assoc]
  rw [show n % 100 / 10 = n / 10 % 10 by omega, show n % 100 % 10 = n % 10 by omega]
  rfl
def monthT (n : Int) : List UInt8 := if 0 ≤ n ∧ n ≤ 35999 then monthL n else []
def moneyT (n : Int) : List UInt8 := if -1000000000000 ≤ n ∧ n ≤ 1000000000000 then moneyL n else []
theorem monthT_yes {n : Int} (h : 0 ≤ n ∧ n ≤ 35999) : monthT n = monthL n := if_pos h
theorem monthT_no {n : Int} (h : ¬ (0 ≤ n ∧ n ≤ 35999)) : monthT n = [] := if_neg h
theorem moneyT_yes {n : Int} (h : -1000000000000 ≤ n ∧ n ≤ 1000000000000) : moneyT n = moneyL n := if_pos h
theorem moneyT_no {n : Int} (h : ¬ (-1000000000000 ≤ n ∧ n ≤ 1000000000000)) : moneyT n = [] := if_neg h
theorem repeat48 : ∀ c : Nat, Lib.repeatL [48] c = List.replicate c 48
  | 0 => rfl
  | c + 1 => by rw [Lib.repeatL, repeat48 c, List.replicate_succ]; rfl
theorem dec_len {n k : Nat} (hk : 1 ≤ k) (h : n < 10 ^ k) : (Lib.decDigits n).length ≤ k := by
  rw [Lib.decDigits_length]
  induction k generalizing n with
  | zero => omega
  | succ k ih =>
    by_cases h1 : n < 10
    · rw [Lib.nDigits_small h1]; omega
    · rw [Lib.nDigits_big h1]
      rcases Nat.eq_zero_or_pos k with h0 | h0
      · subst h0; simp at h; omega
      · have := ih h0 (n := n / 10) (by rw [Nat.pow_succ] at h; omega)
        omega
theorem pad_len {n : Int} {k : Nat} (hn : n ≤ 1000000000000000) : (S (padL k (decL n))).size ≤ k + 17 := by
  have h := dec_len (n := n.toNat) (k := 17) (by omega) (by omega)
  rw [S_size]
  unfold padL decL
  simp only [List.length_append, List.length_replicate]
  omega
theorem decS_len {n : Int} (hn : n ≤ 1000000000000000) : (S (decL n)).size ≤ 17 := by
  have h := dec_len (n := n.toNat) (k := 17) (by omega) (by omega)
  rw [S_size]
  exact h
theorem monthL_len (n : Int) (h : 0 ≤ n ∧ n ≤ 35999) : (monthL n).length = 7 := by
  obtain ⟨m, rfl⟩ := Int.eq_ofNat_of_zero_le h.1
  rw [month_eq (by omega)]; rfl
theorem moneyL_len {n : Int} (h : -1000000000000 ≤ n ∧ n ≤ 1000000000000) : (moneyL n).length ≤ 30 := by
  have hp : ∀ m : Int, 0 ≤ m → m ≤ 1000000000000 → (moneyP m).length ≤ 20 := fun m h1 h2 => by
    obtain ⟨k, rfl⟩ := Int.eq_ofNat_of_zero_le h1
    have h := dec_len (n := k / 100) (k := 17) (by omega) (by omega)
    rw [money_eq]
    simp only [List.length_append, List.length_cons, List.length_nil]
    omega
  unfold moneyL
  split
  · have := hp (-n) (by omega) (by omega)
    simp only [List.length_cons]; omega
  · have := hp n (by omega) (by omega)
    omega
end Go.Proofs.YtlbllonpodckgaaGreatDoor
