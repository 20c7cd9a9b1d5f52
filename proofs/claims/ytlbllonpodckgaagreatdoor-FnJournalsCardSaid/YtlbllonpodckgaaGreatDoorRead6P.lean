/- Texts of money are read: the digits alone, without zeros ahead. Plain. -/
import Derived.Test.YtlbllonpodckgaaGreatDoorReadP
namespace Go.Proofs.YtlbllonpodckgaaGreatDoor
open Go.RowKit Go.BigFrame

def isDg (c : UInt8) : Bool := decide (48 ≤ c.toNat ∧ c.toNat ≤ 57)
def u8Rows (l : List UInt8) : List (List Value) := l.map fun b => [.int .u8 (b.toNat : Int)]
theorem u8Rows_snoc (l : List UInt8) (b : UInt8) : u8Rows (l ++ [b]) = u8Rows l ++ [[.int .u8 (b.toNat : Int)]] := by simp [u8Rows]
theorem filter_digits {l : List UInt8} (h : DigitsL l) : l.filter isDg = l := List.filter_eq_self.2 fun c hc => by unfold isDg; simpa using h c hc
theorem filter_take {L : List UInt8} {k : Nat} (h : k < L.length) : (L.take (k + 1)).filter isDg = (L.take k).filter isDg ++ (if isDg L[k] then [L[k]] else []) := by
  rw [List.take_add_one, List.getElem?_eq_getElem h, Option.toList_some, List.filter_append]
  congr 1
  by_cases hd : isDg L[k] = true
  · simp [hd]
  · simp [hd]
theorem dg_of {c : UInt8} (h1 : 48 ≤ c.toNat) (h2 : c.toNat ≤ 57) : dg (c.toNat - 48) = c := by
  apply UInt8.toNat_inj.1
  rw [dg_toNat (by omega)]; omega
theorem strip_dec : ∀ (n : Nat) (l : List UInt8), l.length = n + 1 → DigitsL l → (n = 0 ∨ ∀ r, l ≠ 48 :: r) → Lib.decDigits (valL 0 l) = l
  | 0, l, hl, hd, _ => by
    match l, hl with
    | [c], _ =>
      have hc := hd c (by simp)
      show Lib.decDigits (0 * 10 + (c.toNat - 48)) = [c]
      rw [dec_small (by omega), show 0 * 10 + (c.toNat - 48) = c.toNat - 48 by omega, dg_of hc.1 hc.2]
  | n + 1, l, hl, hd, hz => by
    have hz' : ∀ r, l ≠ 48 :: r := by
      rcases hz with h | h
      · omega
      · exact h
    have hne : l ≠ [] := by intro h; rw [h] at hl; simp at hl
    have e := List.dropLast_concat_getLast hne
    generalize hl1 : l.dropLast = l1 at e
    generalize l.getLast hne = c at e
    have hl1n : l1.length = n + 1 := by rw [← hl1, List.length_dropLast, hl]; omega
    subst e
    have hc := hd c (by simp)
    have hd1 : DigitsL l1 := fun x hx => hd x (by simp [hx])
    match l1, hl1n, hd1, hz', hd with
    | d :: r, hl2, hd2, hz2, _ =>
      have hd0 := hd2 d (by simp)
      have hd48 : d.toNat ≠ 48 := by
        intro h
        have : d = 48 := UInt8.toNat_inj.1 h
        subst this
        exact hz2 _ rfl
      have hv := valL_ge r (0 * 10 + (d.toNat - 48))
      have ih := strip_dec n (d :: r) hl2 hd2 (.inr fun r' h => hd48 (by injection h with h1 _; rw [h1]; rfl))
      have e2 : valL 0 (d :: r ++ [c]) = valL 0 (d :: r) * 10 + (c.toNat - 48) := by rw [valL_append]; rfl
      have hv2 : 1 ≤ valL 0 (d :: r) := by
        show 1 ≤ valL (0 * 10 + (d.toNat - 48)) r
        omega
      rw [e2]
      generalize valL 0 (d :: r) = V at ih hv2
      rw [dec_big (by omega), show (V * 10 + (c.toNat - 48)) / 10 = V by omega, show (V * 10 + (c.toNat - 48)) % 10 = c.toNat - 48 by omega, ih, dg_of hc.1 hc.2]
theorem valL_zero_ahead (z : List UInt8) (hz : ∀ c ∈ z, c = 48) (l : List UInt8) : valL 0 (z ++ l) = valL 0 l := by
  have : z = List.replicate z.length 48 := List.eq_replicate_iff.2 ⟨rfl, hz⟩
  rw [valL_append, this, valL_zeros]
theorem money_filter {m : Int} (hm : -1000000000000 ≤ m ∧ m ≤ 1000000000000) : ∃ k : Nat, (if m < 0 then -m else m) = (k : Int) ∧ k ≤ 1000000000000 ∧ (moneyL m).filter isDg = Lib.decDigits (k / 100) ++ [dg (k / 10 % 10), dg (k % 10)] := by
  obtain ⟨k, hk⟩ : ∃ k : Nat, (if m < 0 then -m else m) = (k : Int) := ⟨(if m < 0 then -m else m).toNat, by split <;> omega⟩
  have hk2 : k ≤ 1000000000000 := by split at hk <;> omega
  obtain ⟨d1, v1⟩ := dec_digits (k / 100)
  have d2 : DigitsL [dg (k / 10 % 10), dg (k % 10)] := fun c hc => by
    simp at hc
    rcases hc with rfl | rfl <;> exact dg_digit (by omega)
  have hp : (moneyP (k : Int)).filter isDg = Lib.decDigits (k / 100) ++ [dg (k / 10 % 10), dg (k % 10)] := by
    rw [money_eq, List.filter_append, filter_digits d1]
    congr 1
    show List.filter isDg ([46] ++ [dg (k / 10 % 10), dg (k % 10)]) = _
    rw [List.filter_append, filter_digits d2]
    rfl
  refine ⟨k, hk, hk2, ?_⟩
  by_cases hneg : m < 0
  · rw [if_pos hneg] at hk
    rw [moneyL, if_pos hneg, hk]
    show List.filter isDg ([45] ++ moneyP (k : Int)) = _
    rw [List.filter_append, hp]
    rfl
  · rw [if_neg hneg] at hk
    rw [moneyL, if_neg hneg, hk, hp]
theorem money_filter_ne {m : Int} (hm : -1000000000000 ≤ m ∧ m ≤ 1000000000000) : (moneyL m).filter isDg ≠ [] := by
  obtain ⟨k, _, _, h⟩ := money_filter hm
  rw [h]; simp
/-- canonical money: its digits, without zeros ahead, are the number's -/
theorem money_strip {m : Int} (hm : -1000000000000 ≤ m ∧ m ≤ 1000000000000) {j : Nat} (hz : ∀ c ∈ ((moneyL m).filter isDg).take j, c = 48)
    (hs : ((moneyL m).filter isDg).drop j ≠ []) (h1 : (((moneyL m).filter isDg).drop j).length = 1 ∨ ∀ r, ((moneyL m).filter isDg).drop j ≠ 48 :: r) :
    ((moneyL m).filter isDg).drop j = decL (if m < 0 then -m else m) := by
  obtain ⟨k, hk, hk2, hF⟩ := money_filter hm
  obtain ⟨d1, v1⟩ := dec_digits (k / 100)
  have d2 : DigitsL [dg (k / 10 % 10), dg (k % 10)] := fun c hc => by
    simp at hc
    rcases hc with rfl | rfl <;> exact dg_digit (by omega)
  have hv : valL 0 (Lib.decDigits (k / 100) ++ [dg (k / 10 % 10), dg (k % 10)]) = k := by
    rw [valL_append, v1]
    show (k / 100 * 10 + ((dg (k / 10 % 10)).toNat - 48)) * 10 + ((dg (k % 10)).toNat - 48) = k
    rw [dg_toNat (by omega), dg_toNat (by omega)]; omega
  rw [hF] at hz hs h1 ⊢
  have hd := digits_append d1 d2
  generalize Lib.decDigits (k / 100) ++ [dg (k / 10 % 10), dg (k % 10)] = F at hd hv hz hs h1 ⊢
  have hv2 : valL 0 (F.drop j) = k := by
    rw [← valL_zero_ahead _ hz (F.drop j), List.take_append_drop, hv]
  have hd2 : DigitsL (F.drop j) := fun c hc => hd c (List.mem_of_mem_drop hc)
  rw [hk]
  show F.drop j = Lib.decDigits k
  have hlen : 1 ≤ (F.drop j).length := List.length_pos_iff.2 hs
  rw [← hv2]
  exact (strip_dec ((F.drop j).length - 1) (F.drop j) (by omega) hd2 (by
    rcases h1 with h | h
    · exact .inl (by omega)
    · exact .inr h)).symm
theorem money_first {m : Int} (hm : -1000000000000 ≤ m ∧ m ≤ 1000000000000) {s : ByteArray} (h : s = S (moneyL m)) : ∃ h0 : 0 < s.size, (s[0].toNat = 45 ↔ m < 0) := by
  have hl : s.data.toList = moneyL m := by rw [h, S_list]
  obtain ⟨h1, h2, c, r, h3, h4, h5⟩ := money_parse (m := if m < 0 then -m else m) (by split <;> omega)
  have hpos : 0 < s.size := by
    show 0 < s.data.toList.length
    rw [hl]
    exact List.length_pos_iff.2 (money_cut hm).2.2.2
  refine ⟨hpos, ?_⟩
  have hg : ∀ (l : List UInt8) (x : UInt8) (t : List UInt8) (hlt : 0 < l.length), l = x :: t → l[0] = x := fun l x t hlt e => by subst e; rfl
  by_cases hneg : m < 0
  · have e : s.data.toList = 45 :: moneyP (-m) := by rw [hl, moneyL, if_pos hneg]
    have : s[0] = 45 := hg s.data.toList _ _ hpos e
    simp only [this, hneg, iff_true]
    rfl
  · rw [if_neg hneg] at h3
    have e : s.data.toList = c :: r := by rw [hl, moneyL, if_neg hneg, h3]
    have : s[0] = c := hg s.data.toList _ _ hpos e
    rw [this]
    constructor
    · intro h'; omega
    · intro h'; exact absurd h' hneg

end Go.Proofs.YtlbllonpodckgaaGreatDoor
