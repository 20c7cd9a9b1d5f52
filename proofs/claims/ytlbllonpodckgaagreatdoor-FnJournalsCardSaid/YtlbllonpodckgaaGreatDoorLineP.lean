/- A line of a journal: plain. -/
import Derived.Test.YtlbllonpodckgaaGreatDoorReadP
namespace Go.Proofs.YtlbllonpodckgaaGreatDoor
open Go.RowKit Go.BigFrame

/-- a line's entry: what a line's reader says -/
def LineIs (s : ByteArray) (y : Entry) : Prop := entryB y = true ∧ ∃ c, s = S (lineL y c)
theorem line_is {s : ByteArray} {y : Entry} (h : LineIs s y) : ∃ c, cutL 32 s.data.toList = [monthL y.month, nameT y.debit, nameT y.credit, moneyL y.amount, decL c] := by
  obtain ⟨h1, c, h2⟩ := h
  exact ⟨c, by rw [h2, S_list, line_words (entry_ok h1)]⟩
end Go.Proofs.YtlbllonpodckgaaGreatDoor
