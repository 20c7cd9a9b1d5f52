/- A journal that is cut off: its complete lines are recovered. Plain. -/
import Derived.Test.YtlbllonpodckgaaGreatDoorRecP
import Derived.Test.YtlbllonpodckgaaGreatDoorRead5
import Derived.Test.YtlbllonpodckgaaGreatDoorRead6P
namespace Go.Proofs.YtlbllonpodckgaaGreatDoor
open Go.RowKit Go.BigFrame

theorem month_inj {a b : Int} (ha : 0 ≤ a ∧ a ≤ 35999) (hb : 0 ≤ b ∧ b ≤ 35999) (h : monthL a = monthL b) : a = b := by
  have h1 := (month_val (s := S (monthL a)) (m := a) ⟨ha, rfl⟩).2.2
  have h2 := (month_val (s := S (monthL a)) (m := b) ⟨hb, by rw [h]⟩).2.2
  omega
theorem money_inj {a b : Int} (ha : 1 ≤ a ∧ a ≤ 1000000000) (hb : 1 ≤ b ∧ b ≤ 1000000000) (h : moneyL a = moneyL b) : a = b := by
  have h1 := (money_cut (m := a) (by omega)).1
  have h2 := (money_cut (m := b) (by omega)).1
  rw [← h, h1, if_neg (by omega), if_neg (by omega)] at h2
  injection h2
theorem nameT_inj {a b : Int} (ha : 0 ≤ a ∧ a ≤ 9) (hb : 0 ≤ b ∧ b ≤ 9) (h : nameT a = nameT b) : a = b := by
  rw [← accP_name ha, ← accP_name hb, h]
theorem entry_eq {e y : Entry} (h1 : e.month = y.month) (h2 : e.debit = y.debit) (h3 : e.credit = y.credit) (h4 : e.amount = y.amount) : e = y := by
  cases e; cases y; simp_all
theorem line_inj {e y : Entry} (he : entryB e = true) (hy : entryB y = true) {c d : Int} (h : lineL e c = lineL y d) : e = y := by
  have oe := entry_ok he
  have oy := entry_ok hy
  have h1 := line_words oe c
  rw [h, line_words oy d] at h1
  simp only [List.cons.injEq] at h1
  obtain ⟨e1, e2, e3, e4, _⟩ := h1
  exact (entry_eq (month_inj oy.m oe.m e1) (nameT_inj oy.d oe.d e2) (nameT_inj oy.k oe.k e3) (money_inj oy.a oe.a e4)).symm
theorem nextO_line {out : List Entry} {c : Int} {e : Entry} (h1 : out.length < 150) (h2 : entryB e = true) (h3 : lateB out e = false) : nextO out c (lineL e (chkP c e)) = some e :=
  nextO_is ⟨h1, h2, h3, rfl⟩ (fun _ hy => line_inj h2 hy.2.1 hy.2.2.2)

/-- the text behind a check number -/
def jt : Int → List Entry → List UInt8
  | _, [] => []
  | c, e :: r => lineL e (chkP c e) ++ 10 :: jt (chkP c e) r
theorem jourFold_jt : ∀ (xs : List Entry) (s : Int × List UInt8), (xs.foldl (fun s e => (chkP s.1 e, s.2 ++ (lineL e (chkP s.1 e) ++ [10]))) s).2 = s.2 ++ jt s.1 xs
  | [], s => by simp [jt]
  | e :: r, s => by
    rw [List.foldl_cons, jourFold_jt r]
    simp [jt]
theorem jour_jt (xs : List Entry) : (jourS xs).2 = jt 0 xs := by
  have := jourFold_jt xs (0, [])
  simpa [jourS] using this
theorem late_of {out r : List Entry} {e : Entry} (h : ledgerB (out ++ e :: r) = true) : out.length < 150 ∧ entryB e = true ∧ lateB out e = false := by
  have hl := ledger_len h
  rw [List.length_append, List.length_cons] at hl
  have he := ledger_entry h (x := e) (by simp)
  refine ⟨by omega, he, ?_⟩
  unfold lateB
  rcases Nat.eq_zero_or_pos out.length with h0 | h0
  · simp [h0]
  · obtain ⟨x, hx⟩ := get_of_lt (xs := out) (k := out.length - 1) (by omega)
    have h1 : (out ++ e :: r)[out.length - 1]? = some x := by rw [List.getElem?_append_left (by omega), hx]
    have h2 : (out ++ e :: r)[out.length - 1 + 1]? = some e := by rw [show out.length - 1 + 1 = out.length by omega]; simp
    have := ledger_step h h1 h2
    rw [monthAt_of hx, Bool.and_eq_false_iff]
    right
    simp; omega
theorem dropLast_cons {α : Type} (a : α) {l : List α} (h : l ≠ []) : (a :: l).dropLast = a :: l.dropLast := by
  cases l with
  | nil => exact absurd rfl h
  | cons b r => rfl
theorem jt_cons (c : Int) (e : Entry) (r : List Entry) : jt c (e :: r) = lineL e (chkP c e) ++ 10 :: jt (chkP c e) r := by rw [jt]
theorem recL_some {l : List UInt8} {ls : List (List UInt8)} {out : List Entry} {c : Int} {e : Entry} (h : nextO out c l = some e) : recL (l :: ls) out c = recL ls (out ++ [e]) (chkP c e) := by rw [recL, h]
theorem recL_nil (out : List Entry) (c : Int) : recL [] out c = out := by rw [recL]
theorem cut_long {L T : List UInt8} {k : Nat} (hk : L.length < k) : (L ++ 10 :: T).take k = L ++ 10 :: T.take (k - L.length - 1) := by
  obtain ⟨d, rfl⟩ : ∃ d, k = L.length + (d + 1) := ⟨k - L.length - 1, by omega⟩
  rw [List.take_length_add_append, List.take_succ_cons, show L.length + (d + 1) - L.length - 1 = d by omega]
theorem count_long {L T : List UInt8} (hf : (10 : UInt8) ∉ L) : (L ++ 10 :: T).count 10 = T.count 10 + 1 := by
  rw [List.count_append, List.count_eq_zero_of_not_mem hf, List.count_cons_self, Nat.zero_add]
theorem recL_step {L T : List UInt8} {out xs : List Entry} {c c1 : Int} {e : Entry} (hf : (10 : UInt8) ∉ L) (hn : nextO out c L = some e) (hc : chkP c e = c1) (k : Nat)
    (ih : ∀ j, recL (cutL 10 (T.take j)).dropLast (out ++ [e]) c1 = (out ++ [e]) ++ xs.take ((T.take j).count 10)) :
    recL (cutL 10 ((L ++ 10 :: T).take k)).dropLast out c = out ++ (e :: xs).take (((L ++ 10 :: T).take k).count 10) := by
  rcases Nat.lt_or_ge L.length k with hk | hk
  · rw [cut_long hk, cutL_at _ hf, dropLast_cons _ (cutL_ne _ _), recL_some hn, hc, ih, count_long hf, List.take_succ_cons]
    simp
  · rw [List.take_append_of_le_length hk]
    have hf2 : (10 : UInt8) ∉ L.take k := fun hm => hf (List.mem_of_mem_take hm)
    rw [cutL_free hf2, List.count_eq_zero_of_not_mem hf2, List.take_zero, List.append_nil]
    exact recL_nil _ _
theorem recL_cut : ∀ (xs out : List Entry) (c : Int) (k : Nat), ledgerB (out ++ xs) = true →
    recL (cutL 10 ((jt c xs).take k)).dropLast out c = out ++ xs.take (((jt c xs).take k).count 10)
  | [], out, c, k, _ => by
    have h0 : (jt c []).take k = [] := by rw [jt, List.take_nil]
    rw [h0, List.take_nil, List.append_nil]
    exact recL_nil _ _
  | e :: r, out, c, k, h => by
    obtain ⟨h1, h2, h3⟩ := late_of h
    have hf := line_free (entry_ok h2) (chkP c e)
    have hn := nextO_line (c := c) h1 h2 h3
    rw [jt_cons]
    generalize hc : chkP c e = c1 at hf hn ⊢
    generalize lineL e c1 = L at hf hn ⊢
    exact recL_step hf hn hc k (fun j => recL_cut r (out ++ [e]) c1 j (by simpa using h))
/-- the complete lines of a journal that is cut off are recovered -/
theorem rec_cut {xs : List Entry} (h : ledgerB xs = true) (k : Nat) (hk : ((jourS xs).2.take k).length ≤ 12000) : recP ((jourS xs).2.take k) = (xs.take (((jourS xs).2.take k).count 10), 0) := by
  unfold recP
  rw [if_neg (by omega)]
  rw [jour_jt]
  rw [recL_cut xs [] 0 k (by simpa using h)]
  simp
theorem jt_count : ∀ (xs : List Entry) (c : Int), (∀ x ∈ xs, entryB x = true) → (jt c xs).count 10 = xs.length
  | [], _, _ => rfl
  | e :: r, c, h => by
    have hf := line_free (entry_ok (h e (by simp))) (chkP c e)
    rw [jt_cons, count_long hf, jt_count r _ (fun x hx => h x (by simp [hx]))]
    rfl
theorem rec_all {xs : List Entry} (h : ledgerB xs = true) (hk : (jourS xs).2.length ≤ 12000) : recP (jourS xs).2 = (xs, 0) := by
  have h1 := rec_cut h (jourS xs).2.length (by rw [List.take_length]; exact hk)
  rw [List.take_length] at h1
  rw [h1, jour_jt, jt_count xs 0 (fun x hx => ledger_entry h hx), List.take_length]
end Go.Proofs.YtlbllonpodckgaaGreatDoor
