/- The text of a journal: the check number, a line, the whole: plain functions. -/
import Derived.Test.YtlbllonpodckgaaGreatDoorTextP
import Derived.Test.YtlbllonpodckgaaGreatDoorLedgP
import Derived.Test.YtlbllonpodckgaaGreatDoorNames
import Derived.Lib.UnsafeStr
namespace Go.Proofs.YtlbllonpodckgaaGreatDoor
open Go.RowKit Go.BigFrame

def chkP (c : Int) (e : Entry) : Int := (c * 31 + e.month + 7 * e.debit + 13 * e.credit + e.amount) % 99991
theorem chk_bound (c : Int) (e : Entry) : 0 ≤ chkP c e ∧ chkP c e < 99991 := by unfold chkP; omega
def nameT (a : Int) : List UInt8 := (accountName a).data.toList
theorem S_name (a : Int) : S (nameT a) = accountName a := S_of _
theorem nameB_size : ∀ k : Nat, k < 10 → (nameB k).size ≤ 20 := by decide +kernel
theorem name_size (a : Int) : (accountName a).size ≤ 20 := by
  unfold accountName
  split
  · rename_i h
    obtain ⟨h1, h2⟩ := inR_true.1 h
    exact nameB_size _ (by omega)
  · show 0 ≤ 20; omega
theorem nameT_len (a : Int) : (nameT a).length ≤ 20 := by
  have h := name_size a
  rw [← S_name, S_size] at h
  exact h
def lineL (e : Entry) (c : Int) : List UInt8 := monthL e.month ++ [32] ++ nameT e.debit ++ [32] ++ nameT e.credit ++ [32] ++ moneyL e.amount ++ [32] ++ decL c
structure EntryOk (e : Entry) : Prop where
  m : 0 ≤ e.month ∧ e.month ≤ 35999
  d : 0 ≤ e.debit ∧ e.debit ≤ 9
  k : 0 ≤ e.credit ∧ e.credit ≤ 9
  a : 1 ≤ e.amount ∧ e.amount ≤ 1000000000
theorem entry_ok {e : Entry} (h : entryB e = true) : EntryOk e := by
  simp only [entryB, Bool.and_eq_true, inR_true] at h
  exact ⟨h.1, h.2.1, h.2.2.1, h.2.2.2.2⟩
theorem line_len {e : Entry} (h : EntryOk e) {c : Int} (hc : 0 ≤ c ∧ c < 99991) : (lineL e c).length ≤ 99 := by
  have h1 := monthL_len e.month h.m
  have h2 := nameT_len e.debit
  have h3 := nameT_len e.credit
  have h4 := moneyL_len (n := e.amount) (by have := h.a; omega)
  have h5 := decS_len (n := c) (by omega)
  rw [S_size] at h5
  simp only [lineL, List.length_append, List.length_cons, List.length_nil]
  omega
def jourS (xs : List Entry) : Int × List UInt8 := xs.foldl (fun s e => (chkP s.1 e, s.2 ++ (lineL e (chkP s.1 e) ++ [10]))) (0, [])
theorem jourS_snoc (xs : List Entry) (e : Entry) : jourS (xs ++ [e]) = (chkP (jourS xs).1 e, (jourS xs).2 ++ (lineL e (chkP (jourS xs).1 e) ++ [10])) := by simp [jourS]
theorem jourFold_bound : ∀ (xs : List Entry) (s : Int × List UInt8), (∀ e ∈ xs, EntryOk e) → (0 ≤ s.1 ∧ s.1 < 99991) →
    (0 ≤ (xs.foldl (fun s e => (chkP s.1 e, s.2 ++ (lineL e (chkP s.1 e) ++ [10]))) s).1 ∧ (xs.foldl (fun s e => (chkP s.1 e, s.2 ++ (lineL e (chkP s.1 e) ++ [10]))) s).1 < 99991) ∧
      (xs.foldl (fun s e => (chkP s.1 e, s.2 ++ (lineL e (chkP s.1 e) ++ [10]))) s).2.length ≤ s.2.length + 100 * xs.length
  | [], s, _, h0 => by simp; omega
  | e :: rest, s, h, h0 => by
    have hb := chk_bound s.1 e
    have hl := line_len (h e (by simp)) hb
    obtain ⟨i1, i2⟩ := jourFold_bound rest (chkP s.1 e, s.2 ++ (lineL e (chkP s.1 e) ++ [10])) (fun x hx => h x (by simp [hx])) hb
    simp only [List.foldl_cons, List.length_cons]
    refine ⟨i1, ?_⟩
    simp only [List.length_append, List.length_cons, List.length_nil] at i2
    omega
theorem jourS_bound {xs : List Entry} (h : ∀ e ∈ xs, EntryOk e) : (0 ≤ (jourS xs).1 ∧ (jourS xs).1 < 99991) ∧ (jourS xs).2.length ≤ 100 * xs.length := by
  have := jourFold_bound xs (0, []) h (by simp)
  simpa [jourS] using this
theorem jourS_take {xs : List Entry} {k : Nat} {e : Entry} (h : xs[k]? = some e) : jourS (xs.take (k + 1)) = (chkP (jourS (xs.take k)).1 e, (jourS (xs.take k)).2 ++ (lineL e (chkP (jourS (xs.take k)).1 e) ++ [10])) := by
  rw [List.take_add_one, h]
  exact jourS_snoc _ e
def jourP (xs : List Entry) : List UInt8 × Int := if ledgerB xs = true then ((jourS xs).2, 0) else ([], 1)
end Go.Proofs.YtlbllonpodckgaaGreatDoor
