/- The text of a journal: the whole: the program's and the reference's contracts. -/
import Derived.Test.YtlbllonpodckgaaGreatDoorJour
import Derived.Test.YtlbllonpodckgaaGreatDoorJour2
import Derived.Test.YtlbllonpodckgaaGreatDoorTextW
import Derived.Lib.AppendStr
namespace Go.Proofs.YtlbllonpodckgaaGreatDoor
open Go.RowKit Go.BigFrame

theorem jourP_no {xs : List Entry} (h : ledgerB xs = false) : jourP xs = ([], 1) := by simp [jourP, h]
theorem jourP_yes {xs : List Entry} (h : ledgerB xs = true) : jourP xs = ((jourS xs).2, 0) := by simp [jourP, h]
theorem Builder.past {T e : TypeId} {B b : Nat} {bs : List Value} {w w' : World} (h : Lib.IsBuilder T e B b bs w) (hb : Below w.heap.size w w') : Lib.IsBuilder T e B b bs w' := by
  have key : ∀ {p : Value}, Lib.BuilderAt T e B b p bs w → Lib.BuilderAt T e B b p bs w' := fun {p} ⟨h1, v, h2, h3, h4⟩ => by
    have hlt : b < w.heap.size := (Array.getElem?_eq_some_iff.1 h2).1
    refine ⟨h1, v, (hb.block b hlt).trans h2, ?_, h4⟩
    refine ⟨h3.1, ?_⟩
    rcases h3.2 with h0 | ⟨g, c, cur, e', hg, hh, r⟩
    · exact .inl h0
    · exact .inr ⟨g, c, cur, e', hg, (hb.block g (Array.getElem?_eq_some_iff.1 hh).1).trans hh, r⟩
  rcases h with h | h
  · exact .inl (key h)
  · exact .inr (key h)
theorem Builder.fresh (w : World) (T e : TypeId) (B : Nat) (hB : B ≤ w.heap.size) : Lib.IsBuilder T e B w.heap.size [] (w.alloc (.cells #[.pointer none, .slice none 0 0] T)) :=
  .inl ⟨hB, .slice none 0 0, Blk.new w T _, World.ownsRow_nil _ _ _ _, by simp [Value.ownBlock]⟩

theorem byteCells_append (a b : List UInt8) : Lib.byteCells (a ++ b) = Lib.byteCells a ++ Lib.byteCells b := by simp [Lib.byteCells]
theorem strCells_line (l : List UInt8) : Lib.strCells (S l ++ ⟨#[10]⟩) = Lib.byteCells (l ++ [10]) := by
  rw [show (⟨#[10]⟩ : ByteArray) = S [10] from rfl, S_append]
  rfl
theorem line_size {l : List UInt8} (h : l.length ≤ 99) : (S l ++ (⟨#[10]⟩ : ByteArray)).size ≤ 100 := by
  rw [show (⟨#[10]⟩ : ByteArray) = S [10] from rfl, S_append, S_size]
  simp; omega

set_option maxRecDepth 100000 in
set_option maxHeartbeats 4000000 in
theorem impl_JournalText_any (A : Option Addr) (n cap : Nat) (xs : List Entry) (w : World) (hl : xs.length = n) (hn : n ≤ 1048576) (hX : Rd w w.heap.size A 4 (entryRows xs)) (hf : ∀ x ∈ xs, x.fits) (hT : Tab w) (hN : Names w) :
    Calls Tryz.prog 15 #[.slice A n cap] w fun e w' => e = .returned (.tuple #[.string (S (jourP xs).1), .int .i64 (jourP xs).2]) ∧ Below w.heap.size w w' := by
  have HX := Lib.hid hX; clear hX
  have HF := Lib.hid hf; clear hf
  have HL := Lib.hid hl; clear hl
  have HTab := Lib.hid hT; clear hT
  have HNam := Lib.hid hN; clear hN
  cases hg : ledgerB xs
  · have Q := Lib.hid (jourP_no hg)
    go_enter Tryz.func15, Tryz.ntmps15
    go_wp2_with fail
    refine (impl_IsLedger_any A n cap xs _ HL.out hn HX.out HF.out).mono ?_
    rw [hg]
    rintro e w1 ⟨rfl, hb1⟩
    go_wp2
    go_ret2
    exact ⟨by rw [Q.out]; rfl, hb1⟩
  · have Q := Lib.hid (jourP_yes hg)
    have HE := Lib.hid (fun x (hx : x ∈ xs) => entry_ok (ledger_entry hg hx))
    have hn150 : n ≤ 150 := by have := ledger_len hg; have := HL.out; omega
    have HJB := Lib.hid (fun k => jourS_bound (xs := xs.take k) (fun e he => HE.out e (List.mem_of_mem_take he)))
    go_enter Tryz.func15, Tryz.ntmps15
    go_wp2_with fail
    refine (impl_IsLedger_any A n cap xs _ HL.out hn HX.out HF.out).mono ?_
    rw [hg]
    rintro e w1 ⟨rfl, hb1⟩
    have HB1 := Lib.hid hb1; clear hb1
    have HBu := Lib.hid (Builder.fresh w1 93 5 w.heap.size HB1.out.size)
    have HB2 := Lib.hid (HB1.out.alloc HB1.out.size (.cells #[.pointer none, .slice none 0 0] 93))
    clear hg
    go_wp2
    go_loopw [5, 13] (fun c i wr => ∃ k : Nat, k ≤ n ∧ i = .int .i64 k ∧ c = .int .i64 (jourS (xs.take k)).1 ∧ Hid (Lib.IsBuilder 93 5 w.heap.size w1.heap.size (Lib.byteCells (jourS (xs.take k)).2) wr) ∧ Hid (Below w.heap.size w wr)) (fun _ i _ => n - (intOf i).toNat)
    case atStart => exact ⟨0, by omega, rfl, rfl, HBu, HB2⟩
    case round =>
      obtain ⟨k, hk, rfl, rfl, HU, HB⟩ := hrel
      clear HBu HB2
      by_cases hlt : k < n
      · obtain ⟨x, hx⟩ := get_of_lt (xs := xs) (k := k) (by rw [HL.out]; exact hlt)
        obtain ⟨ad, rfl, had, _, hc⟩ := (HX.out.past HB.out).at' (entryRows_get hx)
        have HTk := Lib.hid (jourS_take hx)
        have hxo := HE.out x (List.mem_of_getElem? hx)
        have Hxo := Lib.hid hxo
        obtain ⟨hcb, hlb⟩ := HJB.out k
        have hcb2 := chk_bound (jourS (xs.take k)).1 x
        have hll := line_len hxo hcb2
        have hlk : (xs.take k).length ≤ 150 := by simp; omega
        have Hc := Lib.hid hc; clear hc hx hxo
        obtain ⟨T, hT⟩ : ∃ T, jourS (xs.take k) = T := ⟨_, rfl⟩
        rw [hT] at HU HTk hcb hlb hcb2 hll ⊢
        clear hT
        obtain ⟨c1, hc1⟩ : ∃ c1, chkP T.1 x = c1 := ⟨_, rfl⟩
        have HCK := Lib.hid (fun X => impl_nextCheck_any T.1 x hcb Hxo.out X)
        rw [hc1] at HTk hcb2 hll HCK
        clear hc1
        have HBe := Lib.hid (HB.out.alloc HB.out.size (.cells #[.int .i64 x.month, .int .i64 x.debit, .int .i64 x.credit, .int .i64 x.amount] 78))
        have HUe := Lib.hid (Builder.past HU.out ((Below.refl _ wr).alloc (Nat.le_refl _) (.cells #[.int .i64 x.month, .int .i64 x.debit, .int .i64 x.credit, .int .i64 x.amount] 78)))
        have HK := Lib.hid (Blk.new wr 78 #[.int .i64 x.month, .int .i64 x.debit, .int .i64 x.credit, .int .i64 x.amount])
        go_wp2_with (refine wpList_load_agg rfl 78 _ rfl (ad.add (k * 4)) rfl [.int .i64 x.month, .int .i64 x.debit, .int .i64 x.credit, .int .i64 x.amount] Hc.out _ Tryz.underlying78 rfl Entry.size ?_)
        generalize wr.alloc (.cells #[.int .i64 x.month, .int .i64 x.debit, .int .i64 x.credit, .int .i64 x.amount] 78) = W at HBe HUe HK ⊢
        refine (HCK.out _).mono ?_
        rintro e w2 ⟨rfl, hb2⟩
        have HB3 := Lib.hid (HBe.out.trans (hb2.mono HBe.out.size))
        have HU3 := Lib.hid (Builder.past HUe.out hb2)
        have hk2 := HK.out.below' hb2
        have q0 : w2.cell? ⟨wr.heap.size, 0, none⟩ = some (.int .i64 x.month) := hk2.cell 0
        have q1 : w2.cell? ⟨wr.heap.size, 1, none⟩ = some (.int .i64 x.debit) := hk2.cell 1
        have q2 : w2.cell? ⟨wr.heap.size, 2, none⟩ = some (.int .i64 x.credit) := hk2.cell 2
        have q3 : w2.cell? ⟨wr.heap.size, 3, none⟩ = some (.int .i64 x.amount) := hk2.cell 3
        clear hk2 hb2
        go_wp2_with fail
        refine (impl_entryLine_any x c1 hcb2 Hxo.out w2 (HTab.out.past HB3.out) (HNam.out.past HB3.out)).mono ?_
        rintro e w3 ⟨rfl, hb3⟩
        have HB4 := Lib.hid (HB3.out.trans (hb3.mono HB3.out.size))
        have HU4 := Lib.hid (Builder.past HU3.out hb3)
        clear hb3 q0 q1 q2 q3
        have hzl : (S (lineL x c1)).size ≤ 99 := by rw [S_size]; exact hll
        have hzz := line_size hll
        go_wp2_with fail
        have hln : (Lib.byteCells T.2).length + (S (lineL x c1) ++ (⟨#[10]⟩ : ByteArray)).size ≤ 140737488355328 := by rw [Lib.byteCells_length]; omega
        have HLN := Lib.hid (strCells_line (lineL x c1))
        generalize S (lineL x c1) ++ (⟨#[10]⟩ : ByteArray) = LN at hln hzz HLN ⊢
        have hcall := writeString_any w.heap.size w1.heap.size (Lib.byteCells T.2) LN w3 HU4.out hln HB4.out.size
        refine hcall.mono ?_
        rintro e w4 ⟨rfl, hU5, hb5⟩
        have HU5 := Lib.hid (show Lib.IsBuilder 93 5 w.heap.size w1.heap.size (Lib.byteCells (jourS (xs.take (k + 1))).2) w4 from by
          rw [HTk.out, byteCells_append, ← HLN.out]
          exact .inr hU5)
        have HB5 := Lib.hid (HB4.out.trans hb5)
        clear hU5 hb5
        go_wp2
        go_roundw
        case rel => exact ⟨k + 1, by omega, by go_num, by rw [HTk.out], HU5, HB5⟩
        case measure => simp [intOf]; omega
      · have hkn : k = n := by omega
        subst hkn
        have HAll := Lib.hid (show xs.take k = xs from List.take_of_length_le (by rw [HL.out]; exact Nat.le_refl _))
        rw [HAll.out] at HU
        go_wp2_with fail
        refine (Tryz.Builder_String_any w.heap.size w1.heap.size (jourS xs).2 wr HU.out HB.out.size).mono ?_
        rintro e w2 ⟨rfl, hb2⟩
        go_wp2
        go_ret2
        exact ⟨by rw [Q.out]; rfl, HB.out.trans hb2⟩
end Go.Proofs.YtlbllonpodckgaaGreatDoor
