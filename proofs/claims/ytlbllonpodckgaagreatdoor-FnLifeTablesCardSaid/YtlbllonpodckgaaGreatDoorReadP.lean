/- Texts are cut and read: plain laws of Split, Replace, CutPrefix at one byte; the words of a line. -/
import Derived.Test.YtlbllonpodckgaaGreatDoorParseP
import Derived.Test.YtlbllonpodckgaaGreatDoorJourP
import Derived.Lib.ReplaceLaws
namespace Go.Proofs.YtlbllonpodckgaaGreatDoor
open Go.RowKit Go.BigFrame

/-- a text cut at each byte c -/
def cutL (c : UInt8) : List UInt8 → List (List UInt8)
  | [] => [[]]
  | b :: l => if b = c then [] :: cutL c l else match cutL c l with
    | [] => [[b]]
    | p :: r => (b :: p) :: r
theorem cutL_ne (c : UInt8) (l : List UInt8) : cutL c l ≠ [] := by
  cases l with
  | nil => simp [cutL]
  | cons b l =>
    unfold cutL
    split
    · simp
    · split <;> simp
theorem cutL_free {c : UInt8} : ∀ {a : List UInt8}, c ∉ a → cutL c a = [a]
  | [], _ => rfl
  | b :: l, h => by
    have h1 : ¬ b = c := fun e => h (by simp [e])
    have h2 := cutL_free (c := c) (a := l) (fun e => h (by simp [e]))
    unfold cutL
    rw [if_neg h1, h2]
theorem cutL_at {c : UInt8} : ∀ {a : List UInt8} (b : List UInt8), c ∉ a → cutL c (a ++ c :: b) = a :: cutL c b
  | [], b, _ => by
    show cutL c (c :: b) = _
    conv => lhs; unfold cutL
    rw [if_pos rfl]
  | x :: l, b, h => by
    have h1 : ¬ x = c := fun e => h (by simp [e])
    have h2 := cutL_at (c := c) (a := l) b (fun e => h (by simp [e]))
    show cutL c (x :: (l ++ c :: b)) = _
    conv => lhs; unfold cutL
    rw [if_neg h1, h2]
theorem cutL_len (c : UInt8) : ∀ l : List UInt8, (cutL c l).length = l.count c + 1
  | [] => rfl
  | b :: l => by
    have ih := cutL_len c l
    unfold cutL
    split
    · rename_i h
      subst h
      simp [ih]
    · rename_i h
      rw [List.count_cons_of_ne (by simpa using h)]
      split
      · rename_i e; exact absurd e (cutL_ne c l)
      · rename_i e; rw [e] at ih; simpa using ih
/-- every piece is no longer than the text -/
theorem cutL_le (c : UInt8) : ∀ (l : List UInt8), ∀ p ∈ cutL c l, p.length ≤ l.length
  | [], p, h => by simp [cutL] at h; simp [h]
  | b :: l, p, h => by
    have ih := cutL_le c l
    unfold cutL at h
    split at h
    · rcases List.mem_cons.1 h with h | h
      · simp [h]
      · have := ih p h; simp only [List.length_cons]; omega
    · split at h
      · rename_i e; exact absurd e (cutL_ne c l)
      · rename_i q r e
        rcases List.mem_cons.1 h with h | h
        · have := ih q (by rw [e]; simp); subst h; simp only [List.length_cons]; omega
        · have := ih p (by rw [e]; simp [h]); simp only [List.length_cons]; omega
theorem index_one (c : UInt8) : ∀ l : List UInt8, (c ∉ l ∧ Lib.index l [c] = -1) ∨ (∃ a b, l = a ++ c :: b ∧ c ∉ a ∧ Lib.index l [c] = (a.length : Nat))
  | [] => .inl ⟨by simp, rfl⟩
  | x :: l => by
    by_cases h : x = c
    · subst h
      exact .inr ⟨[], l, rfl, by simp, by rw [Lib.index]; simp [List.isPrefixOf]⟩
    · have hp : ([c] : List UInt8).isPrefixOf (x :: l) = false := by simp [List.isPrefixOf, Ne.symm h]
      have hix : Lib.index (x :: l) [c] = if Lib.index l [c] == -1 then -1 else Lib.index l [c] + 1 := by rw [Lib.index, hp]; simp
      rcases index_one c l with ⟨h1, h2⟩ | ⟨a, b, h1, h2, h3⟩
      · refine .inl ⟨by simp [h1, Ne.symm h], ?_⟩
        rw [hix, h2]; rfl
      · refine .inr ⟨x :: a, b, by rw [h1]; rfl, by simp [h2, Ne.symm h], ?_⟩
        rw [hix, h3, if_neg (by intro e; have := beq_iff_eq.1 e; omega)]
        simp
theorem splitK_cut (c : UInt8) : ∀ (k : Nat) (l : List UInt8), k = l.count c → Lib.splitK [c] 0 k l = cutL c l
  | 0, l, h => by
    have : c ∉ l := List.count_eq_zero.1 h.symm
    rw [cutL_free this]; rfl
  | k + 1, l, h => by
    rcases index_one c l with ⟨h1, _⟩ | ⟨a, b, rfl, h2, h3⟩
    · rw [List.count_eq_zero.2 h1] at h; omega
    · have h4 : k = b.count c := by
        simp only [List.count_append, List.count_cons_self, List.count_eq_zero.2 h2] at h; omega
      rw [Lib.splitK, h3, if_neg (by intro e; have := beq_iff_eq.1 e; omega), cutL_at b h2]
      have e1 : ((a.length : Nat) : Int).toNat = a.length := by omega
      rw [e1]
      have e2 : (a ++ c :: b).drop (a.length + [c].length) = b := by simp
      have e3 : (a ++ c :: b).take (a.length + 0) = a := by simp
      rw [e2, e3, splitK_cut c k b h4]
theorem splitB_cut (c : UInt8) (s : ByteArray) : (Lib.splitB ⟨#[c]⟩ 0 (Lib.countB s ⟨#[c]⟩) s) = (cutL c s.data.toList).map S := by
  have h := Lib.splitB_data ⟨#[c]⟩ 0 (Lib.countB s ⟨#[c]⟩) s
  have e : (⟨#[c]⟩ : ByteArray).data.toList = [c] := rfl
  have hc : Lib.countB s ⟨#[c]⟩ = s.data.toList.count c := Lib.count_one c _
  rw [e, splitK_cut c _ _ hc] at h
  rw [← h, List.map_map]
  conv => lhs; rw [← List.map_id (Lib.splitB _ 0 _ s)]
  refine List.map_congr_left fun x _ => ?_
  exact (S_of x).symm
theorem countB_one (c : UInt8) (s : ByteArray) : Lib.countB s ⟨#[c]⟩ + 1 = (cutL c s.data.toList).length := by
  rw [cutL_len]
  exact congrArg (· + 1) (Lib.count_one c _)
theorem replace_once {c : UInt8} {a b : List UInt8} (ha : c ∉ a) : Lib.replace (a ++ c :: b) [c] [] 1 = a ++ b := by
  rcases index_one c (a ++ c :: b) with ⟨h1, _⟩ | ⟨a', b', h1, h2, h3⟩
  · exact absurd (by simp) h1
  · have hh := cutL_at b ha
    rw [h1, cutL_at b' h2] at hh
    have ea : a' = a := by injection hh
    subst ea
    have hn : Lib.replaceNum (a' ++ c :: b) [c] 1 = 1 := by
      unfold Lib.replaceNum
      rw [Lib.count_one]
      have : 1 ≤ (a' ++ c :: b).count c := by simp; omega
      rw [if_neg (by omega)]; rfl
    unfold Lib.replace
    rw [if_neg (by simp), hn, Lib.replaceK, h3, if_neg (by intro e; have := beq_iff_eq.1 e; omega)]
    have e1 : ((a'.length : Nat) : Int).toNat = a'.length := by omega
    rw [e1]
    have e2 : (a' ++ c :: b).drop (a'.length + [c].length) = b := by simp
    have e3 : (a' ++ c :: b).take a'.length = a' := by simp
    rw [e2, e3]
    simp [Lib.replaceK]
theorem digits_free {l : List UInt8} (h : DigitsL l) {c : UInt8} (hc : c.toNat < 48) : c ∉ l := fun hm => by have := h c hm; omega
theorem digits_append {a b : List UInt8} (ha : DigitsL a) (hb : DigitsL b) : DigitsL (a ++ b) := fun c hc => by
  rcases List.mem_append.1 hc with h | h
  · exact ha c h
  · exact hb c h
/-- money of at least 0: the point goes, the digits are the number -/
theorem money_parse {m : Int} (h : 0 ≤ m ∧ m ≤ 1000000000000) : Lib.parseIntB 64 (Lib.replace (moneyP m) [46] [] 1) = .ok m ∧ (moneyP m).length ≤ 16 ∧ (∃ c r, moneyP m = c :: r ∧ 48 ≤ c.toNat ∧ c.toNat ≤ 57) := by
  obtain ⟨k, rfl⟩ := Int.eq_ofNat_of_zero_le h.1
  obtain ⟨d1, v1⟩ := dec_digits (k / 100)
  have hp := dec_pos (k / 100)
  have hl := dec_len (n := k / 100) (k := 11) (by omega) (by omega)
  have d2 : DigitsL [dg (k / 10 % 10), dg (k % 10)] := fun c hc => by
    simp at hc
    rcases hc with rfl | rfl <;> exact dg_digit (by omega)
  have hv : valL 0 (Lib.decDigits (k / 100) ++ [dg (k / 10 % 10), dg (k % 10)]) = k := by
    rw [valL_append, v1]
    show (k / 100 * 10 + ((dg (k / 10 % 10)).toNat - 48)) * 10 + ((dg (k % 10)).toNat - 48) = k
    rw [dg_toNat (by omega), dg_toNat (by omega)]; omega
  rw [money_eq]
  refine ⟨?_, ?_, ?_⟩
  · rw [show Lib.decDigits (k / 100) ++ [46, dg (k / 10 % 10), dg (k % 10)] = Lib.decDigits (k / 100) ++ 46 :: [dg (k / 10 % 10), dg (k % 10)] from rfl, replace_once (digits_free d1 (by decide)), parseInt_digits (by simp) (digits_append d1 d2) (by rw [hv]; omega), hv]
  · simp only [List.length_append, List.length_cons, List.length_nil]; omega
  · match hd : Lib.decDigits (k / 100) with
    | [] => rw [hd] at hp; simp at hp
    | c :: r => exact ⟨c, r ++ _, rfl, d1 c (by rw [hd]; simp)⟩
theorem money_cut {m : Int} (h : -1000000000000 ≤ m ∧ m ≤ 1000000000000) :
    Lib.parseIntB 64 (Lib.replace (Lib.trimPrefix (moneyL m) [45]) [46] [] 1) = .ok (if m < 0 then -m else m) ∧ (Lib.trimPrefix (moneyL m) [45]).length ≤ 16 ∧ Lib.hasPrefix (moneyL m) [45] = decide (m < 0) ∧ moneyL m ≠ [] := by
  by_cases hm : m < 0
  · obtain ⟨h1, h2, _⟩ := money_parse (m := -m) (by omega)
    have e : moneyL m = 45 :: moneyP (-m) := by rw [moneyL, if_pos hm]
    have ht : Lib.trimPrefix (moneyL m) [45] = moneyP (-m) := by rw [e]; simp [Lib.trimPrefix, Lib.hasPrefix, List.isPrefixOf]
    rw [ht, if_pos hm, e]
    exact ⟨h1, h2, by simp [Lib.hasPrefix, List.isPrefixOf, hm], by simp⟩
  · obtain ⟨h1, h2, c, r, h3, h4, h5⟩ := money_parse (m := m) (by omega)
    have e : moneyL m = moneyP m := by rw [moneyL, if_neg hm]
    have hc : ¬ (45 : UInt8) = c := fun hh => by subst hh; revert h4; decide
    have hh : Lib.hasPrefix (moneyL m) [45] = false := by rw [e, h3]; simp [Lib.hasPrefix, List.isPrefixOf, hc]
    have ht : Lib.trimPrefix (moneyL m) [45] = moneyP m := by unfold Lib.trimPrefix; rw [hh, e]; simp
    rw [ht, if_neg hm, hh, e]
    exact ⟨h1, h2, by simp [hm], by rw [h3]; simp⟩
/-- the words of a line -/
theorem month_free {m : Int} (h : 0 ≤ m ∧ m ≤ 35999) : (32 : UInt8) ∉ monthL m ∧ (10 : UInt8) ∉ monthL m := by
  obtain ⟨k, rfl⟩ := Int.eq_ofNat_of_zero_le h.1
  have d4 := (pad_digits 4 (k / 12)).1
  have d2 := (pad_digits 2 (k % 12 + 1)).1
  unfold monthL decL
  rw [show ((k : Int) / 12).toNat = k / 12 by omega, show ((k : Int) % 12 + 1).toNat = k % 12 + 1 by omega]
  refine ⟨fun hm => ?_, fun hm => ?_⟩
  · rcases List.mem_append.1 hm with hm | hm
    · rcases List.mem_append.1 hm with hm | hm
      · exact digits_free d4 (by decide) hm
      · simp at hm
    · exact digits_free d2 (by decide) hm
  · rcases List.mem_append.1 hm with hm | hm
    · rcases List.mem_append.1 hm with hm | hm
      · exact digits_free d4 (by decide) hm
      · simp at hm
    · exact digits_free d2 (by decide) hm
theorem moneyP_free {m : Int} (h : 0 ≤ m) {c : UInt8} (hc : c.toNat < 48) (h46 : c ≠ 46) : c ∉ moneyP m := by
  obtain ⟨k, rfl⟩ := Int.eq_ofNat_of_zero_le h
  have d1 := (dec_digits (k / 100)).1
  rw [money_eq]
  intro hm
  rcases List.mem_append.1 hm with hm | hm
  · exact digits_free d1 hc hm
  · simp at hm
    rcases hm with rfl | rfl | rfl
    · exact h46 rfl
    · have := (dg_digit (n := k / 10 % 10) (by omega)).1; omega
    · have := (dg_digit (n := k % 10) (by omega)).1; omega
theorem money_free {m : Int} {c : UInt8} (hc : c.toNat < 48) (h46 : c ≠ 46) (h45 : c ≠ 45) : c ∉ moneyL m := by
  unfold moneyL
  split
  · intro hm
    rcases List.mem_cons.1 hm with hm | hm
    · exact h45 hm
    · exact moneyP_free (by omega) hc h46 hm
  · exact moneyP_free (by omega) hc h46
theorem name_free : ∀ k : Nat, k < 10 → (32 : UInt8) ∉ (nameB k).data.toList ∧ (10 : UInt8) ∉ (nameB k).data.toList := by decide +kernel
theorem nameT_free (a : Int) : (32 : UInt8) ∉ nameT a ∧ (10 : UInt8) ∉ nameT a := by
  unfold nameT accountName
  split
  · rename_i h
    obtain ⟨h1, h2⟩ := inR_true.1 h
    exact name_free _ (by omega)
  · exact ⟨by decide, by decide⟩
theorem line_words {e : Entry} (h : EntryOk e) (c : Int) : cutL 32 (lineL e c) = [monthL e.month, nameT e.debit, nameT e.credit, moneyL e.amount, decL c] := by
  have h5 : (32 : UInt8) ∉ decL c := digits_free (dec_digits _).1 (by decide)
  unfold lineL
  simp only [List.append_assoc, List.cons_append, List.nil_append]
  rw [cutL_at _ (month_free h.m).1, cutL_at _ (nameT_free _).1, cutL_at _ (nameT_free _).1, cutL_at _ (money_free (by decide) (by decide) (by decide)), cutL_free h5]
theorem line_free {e : Entry} (h : EntryOk e) (c : Int) : (10 : UInt8) ∉ lineL e c := by
  have h5 : (10 : UInt8) ∉ decL c := digits_free (dec_digits _).1 (by decide)
  have h1 := (month_free h.m).2
  have h2 := (nameT_free e.debit).2
  have h3 := (nameT_free e.credit).2
  have h4 := money_free (m := e.amount) (c := 10) (by decide) (by decide) (by decide)
  simp only [lineL, List.mem_append, List.mem_singleton]
  rintro (((((((( h | h) | h) | h) | h) | h) | h) | h) | h)
  · exact h1 h
  · revert h; decide
  · exact h2 h
  · revert h; decide
  · exact h3 h
  · revert h; decide
  · exact h4 h
  · revert h; decide
  · exact h5 h
theorem name_inj : ∀ i : Nat, i < 10 → ∀ j : Nat, j < 10 → (nameB i).data.toList = (nameB j).data.toList → i = j := by decide +kernel
theorem isEmpty_ne {s : ByteArray} (h : ¬ s = ⟨#[]⟩) : s.toList.isEmpty = false := by
  rw [ByteArray.toList_eq]
  match hl : s.data.toList with
  | [] => exact absurd ((S_of s).symm.trans (by rw [hl]; rfl)) h
  | _ :: _ => rfl
theorem replaceK_len (c : UInt8) : ∀ (k : Nat) (l : List UInt8), (Lib.replaceK [c] [] k l).length ≤ l.length
  | 0, l => Nat.le_refl _
  | k + 1, l => by
    rcases index_one c l with ⟨_, h2⟩ | ⟨a, b, rfl, h2, h3⟩
    · rw [Lib.replaceK, h2, if_pos (by decide)]; exact Nat.le_refl _
    · have e1 : ((a.length : Nat) : Int).toNat = a.length := by omega
      have e2 : (a ++ c :: b).drop (a.length + [c].length) = b := by simp
      have e3 : (a ++ c :: b).take a.length = a := by simp
      have ih := replaceK_len c k b
      rw [Lib.replaceK, h3, if_neg (by intro e; have := beq_iff_eq.1 e; omega), e1, e2, e3]
      simp only [List.length_append, List.length_cons, List.length_nil]
      omega
theorem replace_len (c : UInt8) (l : List UInt8) (n : Int) : (Lib.replace l [c] [] n).length ≤ l.length := by
  unfold Lib.replace
  split
  · exact Nat.le_refl _
  · exact replaceK_len c _ l
end Go.Proofs.YtlbllonpodckgaaGreatDoor
