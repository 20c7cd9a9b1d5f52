/- A ledger is recovered from its journal: plain: a line is taken if it is the line of an entry that may follow. -/
import Derived.Test.YtlbllonpodckgaaGreatDoorLineP
import Derived.Test.YtlbllonpodckgaaGreatDoorBook
namespace Go.Proofs.YtlbllonpodckgaaGreatDoor
open Go.RowKit Go.BigFrame

def NextE (out : List Entry) (c : Int) (l : List UInt8) (e : Entry) : Prop := out.length < 150 ∧ entryB e = true ∧ lateB out e = false ∧ l = lineL e (chkP c e)
noncomputable def nextO (out : List Entry) (c : Int) (l : List UInt8) : Option Entry := open Classical in if h : ∃ e, NextE out c l e then some (Classical.choose h) else none
theorem nextO_some {out : List Entry} {c : Int} {l : List UInt8} {e : Entry} (h : nextO out c l = some e) : NextE out c l e := by
  unfold nextO at h
  split at h
  · rename_i hh
    injection h with h
    rw [← h]
    exact Classical.choose_spec hh
  · cases h
theorem nextO_none {out : List Entry} {c : Int} {l : List UInt8} (h : ∀ e, ¬ NextE out c l e) : nextO out c l = none := by
  unfold nextO
  rw [dif_neg (fun ⟨e, he⟩ => h e he)]
theorem nextO_is {out : List Entry} {c : Int} {l : List UInt8} {e : Entry} (h : NextE out c l e) (hu : ∀ y, NextE out c l y → e = y) : nextO out c l = some e := by
  have : ∃ y, nextO out c l = some y := by
    unfold nextO
    rw [dif_pos ⟨e, h⟩]
    exact ⟨_, rfl⟩
  obtain ⟨y, hy⟩ := this
  rw [hy, hu y (nextO_some hy)]
noncomputable def recL : List (List UInt8) → List Entry → Int → List Entry
  | [], out, _ => out
  | l :: ls, out, c => match nextO out c l with
    | none => out
    | some e => recL ls (out ++ [e]) (chkP c e)
theorem recL_stop {ls : List (List UInt8)} {out : List Entry} {c : Int} {k : Nat} {l : List UInt8} (h : ls[k]? = some l) (hn : ∀ e, ¬ NextE out c l e) : recL (ls.drop k) out c = out := by
  obtain ⟨hk, rfl⟩ := List.getElem?_eq_some_iff.1 h
  rw [List.drop_eq_getElem_cons hk, recL, nextO_none hn]
theorem recL_go {ls : List (List UInt8)} {out : List Entry} {c : Int} {k : Nat} {l : List UInt8} {e : Entry} (h : ls[k]? = some l) (he : NextE out c l e) (hu : ∀ y, NextE out c l y → e = y) :
    recL (ls.drop k) out c = recL (ls.drop (k + 1)) (out ++ [e]) (chkP c e) := by
  obtain ⟨hk, rfl⟩ := List.getElem?_eq_some_iff.1 h
  rw [List.drop_eq_getElem_cons hk, recL, nextO_is he hu]
theorem recL_end {ls : List (List UInt8)} {out : List Entry} {c : Int} {k : Nat} (h : ls.length ≤ k) : recL (ls.drop k) out c = out := by
  rw [List.drop_of_length_le h, recL]
theorem recL_full : ∀ {ls : List (List UInt8)} {out : List Entry} {c : Int}, 150 ≤ out.length → recL ls out c = out
  | [], _, _, _ => rfl
  | l :: ls, out, c, h => by rw [recL, nextO_none (fun e he => by have := he.1; omega)]
noncomputable def recP (s : List UInt8) : List Entry × Int := if 12000 < s.length then ([], 3) else (recL (cutL 10 s).dropLast [] 0, 0)

theorem ledger_snoc {xs : List Entry} {e : Entry} (h : ledgerB xs = true) (hl : xs.length < 150) (he : entryB e = true) (ht : lateB xs e = false) : ledgerB (xs ++ [e]) = true := by
  have hlast : okAt (xs ++ [e]) xs.length = true := by
    refine okAt_yes (x := e) (by simp) he ?_
    rcases Nat.eq_zero_or_pos xs.length with h0 | h0
    · exact .inl h0
    · right
      simp only [lateB, Bool.and_eq_false_iff, decide_eq_false_iff_not] at ht
      have h2 : monthAt (xs ++ [e]) (xs.length - 1) = monthAt xs (xs.length - 1) := by
        simp only [monthAt]
        rw [List.getElem?_append_left (by omega)]
      rw [h2]
      rcases ht with ht | ht <;> omega
  unfold ledgerB
  rw [Bool.and_eq_true, decide_eq_true_eq]
  refine ⟨by simp; omega, ?_⟩
  rw [List.length_append, List.length_singleton]
  refine range_succ_all ?_ hlast
  refine List.all_eq_true.2 fun k hk => ?_
  have hk' : k < xs.length := by simpa using hk
  have h1 := ledger_ok h hk'
  obtain ⟨x, hx⟩ := get_of_lt hk'
  have e1 : (xs ++ [e])[k]? = some x := by rw [List.getElem?_append_left hk', hx]
  have e2 : monthAt (xs ++ [e]) (k - 1) = monthAt xs (k - 1) := by
    simp only [monthAt]
    rw [List.getElem?_append_left (by omega)]
  unfold okAt at h1 ⊢
  rw [e1, e2]
  rw [hx] at h1
  exact h1
theorem ledger_nil : ledgerB [] = true := rfl
theorem nextE_line {out : List Entry} {c : Int} {l : List UInt8} {e : Entry} (h : NextE out c l e) : LineIs (S l) e := ⟨h.2.1, chkP c e, by rw [h.2.2.2]⟩
/-- what BookEntry says of an entry that may follow -/
theorem book_next {out : List Entry} {e : Entry} (hg : ledgerB out = true) (h1 : out.length < 150) (h2 : entryB e = true) (h3 : lateB out e = false) : bookP out e = (out ++ [e], 0) := by
  unfold bookP addP
  rw [if_pos hg, if_pos h2, h3, if_neg (by simp), if_neg (by omega)]
theorem book_code {out : List Entry} {e : Entry} (h : (bookP out e).2 = 0) : ledgerB out = true ∧ out.length < 150 ∧ entryB e = true ∧ lateB out e = false := by
  unfold bookP addP at h
  split at h
  · rename_i hg
    split at h
    · rename_i he
      split at h
      · cases h
      · rename_i hlate
        split at h
        · cases h
        · rename_i hlen
          have := ledger_len hg
          exact ⟨hg, by omega, he, by simpa using hlate⟩
    · cases h
  · cases h
end Go.Proofs.YtlbllonpodckgaaGreatDoor
