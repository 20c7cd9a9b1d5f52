/- The text of a journal: the whole: the reference's contract. -/
import Derived.Test.YtlbllonpodckgaaGreatDoorJour
import Derived.Test.YtlbllonpodckgaaGreatDoorJour2
import Derived.Test.YtlbllonpodckgaaGreatDoorJour3
import Derived.Test.YtlbllonpodckgaaGreatDoorApp
import Derived.Lib.AppendStr
import Derived.Lib.BufferRead
import Derived.Laws.IdiomStrings
namespace Go.Proofs.YtlbllonpodckgaaGreatDoor
open Go.RowKit Go.BigFrame

theorem byteInfo : (Tryz.prog.info? 5).map (fun i => (i.zero, i.size, i.bytes)) = some (some (.int .u8 0), 1, 1) := by kernel_rfl
theorem ownsRow_past {w w' : World} {B : Nat} {e : TypeId} {sz n : Nat} {v : Value} {cs : List Value} (h : w.ownsRow B e sz v n cs) (hb : Below w.heap.size w w') : w'.ownsRow B e sz v n cs := by
  refine ⟨h.1, ?_⟩
  rcases h.2 with h0 | ⟨g, c, cur, e', hg, hh, r⟩
  · exact .inl h0
  · exact .inr ⟨g, c, cur, e', hg, (hb.block g (Array.getElem?_eq_some_iff.1 hh).1).trans hh, r⟩
/-- string(out) of a row of bytes -/
theorem conv_row {w : World} {B : Nat} {v : Value} {L : List UInt8} (h : w.ownsRow B 5 1 v L.length (Lib.byteCells L)) : (convert 28 9 v).run Tryz.prog w = .ok (.string (S L)) w := by
  rcases h.2 with ⟨rfl, h0⟩ | ⟨g, cap, cur, rfl, hb, hh, hn, hc, hs, ht⟩
  · have : L = [] := List.eq_nil_of_length_eq_zero h0
    subst this
    exact Lib.run_convert_nil_bytes w _ _ 5 0 Tryz.underlying28 Tryz.underlying5 Tryz.underlying9
  · refine run_convert_bytes_back w _ _ 5 ⟨g, 0, none⟩ cap L Tryz.underlying28 Tryz.underlying5 Tryz.underlying9 fun j hj => ?_
    have h1 := h.cells (g := g) rfl j (.int .u8 (L[j].toNat : Int)) (by simp [Lib.byteCells, hj])
    exact h1

set_option maxRecDepth 100000 in
set_option maxHeartbeats 4000000 in
theorem spec_JournalText_any (A : Option Addr) (n cap : Nat) (xs : List Entry) (w : World) (hl : xs.length = n) (hn : n ≤ 1048576) (hX : Rd w w.heap.size A 4 (entryRows xs)) (hf : ∀ x ∈ xs, x.fits) :
    Calls Tryz.prog 16 #[.slice A n cap] w fun e w' => e = .returned (.tuple #[.string (S (jourP xs).1), .int .i64 (jourP xs).2]) ∧ Below w.heap.size w w' := by
  have HX := Lib.hid hX; clear hX
  have HF := Lib.hid hf; clear hf
  have HL := Lib.hid hl; clear hl
  cases hg : ledgerB xs
  · have Q := Lib.hid (jourP_no hg)
    go_enter Tryz.func16, Tryz.ntmps16
    go_wp2_with fail
    refine (spec_IsLedger_any A n cap xs _ HL.out hn HX.out HF.out).mono ?_
    rw [hg]
    rintro e w1 ⟨rfl, hb1⟩
    go_wp2
    go_ret2
    exact ⟨by rw [Q.out]; rfl, hb1⟩
  · have Q := Lib.hid (jourP_yes hg)
    have HE := Lib.hid (fun x (hx : x ∈ xs) => entry_ok (ledger_entry hg hx))
    have hn150 : n ≤ 150 := by have := ledger_len hg; have := HL.out; omega
    have HJB := Lib.hid (fun k => jourS_bound (xs := xs.take k) (fun e he => HE.out e (List.mem_of_mem_take he)))
    obtain ⟨i0, hi0, hz0, hz1, hz2⟩ := info_parts byteInfo
    have HI := Lib.hid (And.intro hi0 (And.intro hz0 (And.intro hz1 hz2))); clear hi0 hz0 hz1 hz2
    go_enter Tryz.func16, Tryz.ntmps16
    go_wp2_with fail
    refine (spec_IsLedger_any A n cap xs _ HL.out hn HX.out HF.out).mono ?_
    rw [hg]
    rintro e w1 ⟨rfl, hb1⟩
    have HB1 := Lib.hid hb1; clear hb1
    have HO := Lib.hid (show (w1.alloc (.cells #[] 5)).ownsRow w.heap.size 5 1 (.slice (some ⟨w1.heap.size, 0, none⟩) 0 0) ([] : List UInt8).length (Lib.byteCells []) from (Res.zero w1 w.heap.size 5 1 HB1.out.size).own)
    have HB2 := Lib.hid (HB1.out.alloc HB1.out.size (.cells #[] 5))
    clear hg
    go_wp2
    go_loopw [4, 5, 6] (fun o c i wr => ∃ k : Nat, k ≤ n ∧ i = .int .i64 k ∧ c = .int .i64 (jourS (xs.take k)).1 ∧ Hid (wr.ownsRow w.heap.size 5 1 o (jourS (xs.take k)).2.length (Lib.byteCells (jourS (xs.take k)).2)) ∧ Hid (Below w.heap.size w wr)) (fun _ _ i _ => n - (intOf i).toNat)
    case atStart => exact ⟨0, by omega, rfl, rfl, HO, HB2⟩
    case round =>
      obtain ⟨k, hk, rfl, rfl, HU, HB⟩ := hrel
      clear HO HB2
      by_cases hlt : k < n
      · obtain ⟨x, hx⟩ := get_of_lt (xs := xs) (k := k) (by rw [HL.out]; exact hlt)
        obtain ⟨ad, rfl, had, _, hc⟩ := (HX.out.past HB.out).at' (entryRows_get hx)
        have HTk := Lib.hid (jourS_take hx)
        have hxo := HE.out x (List.mem_of_getElem? hx)
        have Hxo := Lib.hid hxo
        obtain ⟨hcb, hlb⟩ := HJB.out k
        have hcb2 := chk_bound (jourS (xs.take k)).1 x
        have hll := line_len hxo hcb2
        have hlk : (xs.take k).length ≤ 150 := by simp; omega
        have Hc := Lib.hid hc; clear hc hx hxo
        obtain ⟨T, hT⟩ : ∃ T, jourS (xs.take k) = T := ⟨_, rfl⟩
        rw [hT] at HU HTk hcb hlb hcb2 hll ⊢
        clear hT
        obtain ⟨c1, hc1⟩ : ∃ c1, chkP T.1 x = c1 := ⟨_, rfl⟩
        have HCK := Lib.hid (fun X => spec_l22Check_any T.1 x hcb Hxo.out X)
        rw [hc1] at HTk hcb2 hll HCK
        clear hc1
        obtain ⟨A0, cp0, hv0⟩ := own_form _ HU.out
        subst hv0
        go_wp2_with (refine wpList_load_agg rfl 78 _ rfl (ad.add (k * 4)) rfl [.int .i64 x.month, .int .i64 x.debit, .int .i64 x.credit, .int .i64 x.amount] Hc.out _ Tryz.underlying78 rfl Entry.size ?_)
        refine (HCK.out _).mono ?_
        rintro e w2 ⟨rfl, hb2⟩
        have HB3 := Lib.hid (HB.out.trans (hb2.mono HB.out.size))
        have HU3 := Lib.hid (ownsRow_past HU.out hb2)
        have Hc3 := Lib.hid (fun j v (hv : [Value.int .i64 x.month, .int .i64 x.debit, .int .i64 x.credit, .int .i64 x.amount][j]? = some v) => (hb2.cell (block_lt_of_cell (Hc.out j v hv))).trans (Hc.out j v hv))
        clear hb2
        go_wp2_with (refine wpList_load_agg rfl 78 _ rfl (ad.add (k * 4)) rfl [.int .i64 x.month, .int .i64 x.debit, .int .i64 x.credit, .int .i64 x.amount] Hc3.out _ Tryz.underlying78 rfl Entry.size ?_)
        refine (spec_l22Line_any x c1 hcb2 Hxo.out w2).mono ?_
        rintro e w3 ⟨rfl, hb3⟩
        have HB4 := Lib.hid (HB3.out.trans (hb3.mono HB3.out.size))
        have HU4 := Lib.hid (ownsRow_past HU3.out hb3)
        clear hb3
        have hzl : (S (lineL x c1)).size ≤ 99 := by rw [S_size]; exact hll
        have hzz := line_size hll
        have HSC := Lib.hid (strCells_line (lineL x c1))
        have HSZ := Lib.hid (show (S (lineL x c1) ++ (⟨#[10]⟩ : ByteArray)).size = (lineL x c1 ++ [10]).length by rw [show (⟨#[10]⟩ : ByteArray) = S [10] from rfl, S_append, S_size])
        go_wp2_with (at_builtin; generalize S (lineL x c1) ++ (⟨#[10]⟩ : ByteArray) = LN at hzz HSC HSZ ⊢; refine Lib.wpList_append_own_string w3 rfl (.tmp 23) (.tmp 30) 28 9 rfl w.heap.size 5 i0 Tryz.underlying28 Tryz.underlying9 HI.out.1 HI.out.2.1 HI.out.2.2.1 HI.out.2.2.2 (.slice A0 T.2.length cp0) T.2.length (Lib.byteCells T.2) rfl HU4.out LN rfl (by unfold maxLen; omega) (by omega) HB4.out.size ?_; intro v' w5 hU5 hg5 _)
        rw [HSC.out, HSZ.out, ← byteCells_append, ← List.length_append] at hU5
        have HB5 := Lib.hid (HB4.out.trans ((Below.refl w.heap.size w3).grown hg5 HB4.out.size (fun q hq => (HU4.out.lt q hq).1)))
        have HU5 := Lib.hid hU5; clear hU5 hg5
        obtain ⟨A5, cp5, hv5⟩ := own_form _ HU5.out
        subst hv5
        go_wp2
        go_roundw
        case rel => exact ⟨k + 1, by omega, by go_num, by rw [HTk.out], by rw [HTk.out]; exact HU5, HB5⟩
        case measure => simp [intOf]; omega
      · have hkn : k = n := by omega
        subst hkn
        have HAll := Lib.hid (show xs.take k = xs from List.take_of_length_le (by rw [HL.out]; exact Nat.le_refl _))
        rw [HAll.out] at HU
        have hcv := conv_row HU.out
        obtain ⟨A0, cp0, hv0⟩ := own_form _ HU.out
        subst hv0
        go_wp2
        go_ret2
        exact ⟨by rw [Q.out]; rfl, HB.out⟩
end Go.Proofs.YtlbllonpodckgaaGreatDoor
