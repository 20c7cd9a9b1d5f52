/- Equal lists of entries are like each other. -/
import Derived.Test.YtlbllonpodckgaaGreatDoorLikes
import Derived.Test.YtlbllonpodckgaaGreatDoorStEntry
namespace Go.Proofs.YtlbllonpodckgaaGreatDoor
open Go.RowKit Go.BigFrame

theorem likeEntries9_any (A : Option Addr) (n cap : Nat) (A2 : Option Addr) (cap2 : Nat) (xs : List Entry) (w : World) (hl : xs.length = n) (hn : n ≤ 1048576) (hX : Rd w w.heap.size A 4 (entryRows xs)) (hX2 : Rd w w.heap.size A2 4 (entryRows xs)) :
    Calls Tryz.prog 18 #[.slice A n cap, .slice A2 n cap2] w fun e w' => e = .returned (.bool true) ∧ Below w.heap.size w w' := by
  have HX := Lib.hid hX; clear hX
  have HX2 := Lib.hid hX2; clear hX2
  have HL := Lib.hid hl; clear hl
  go_enter Tryz.func18, Tryz.ntmps18
  go_wp2
  go_loopw [5] (fun i wr => ∃ k : Nat, k ≤ n ∧ i = .int .i64 k ∧ Below w.heap.size w wr) (fun i _ => n - (intOf i).toNat)
  case atStart => exact ⟨0, by omega, rfl, Below.refl _ _⟩
  case round =>
    obtain ⟨k, hk, rfl, hb⟩ := hrel
    by_cases hlt : k < n
    · obtain ⟨x, hx⟩ := get_of_lt (xs := xs) (k := k) (by rw [HL.out]; exact hlt)
      obtain ⟨ad, rfl, had, _, hc⟩ := (HX.out.past hb).at' (entryRows_get hx)
      obtain ⟨ad2, rfl, had2, _, hc2⟩ := (HX2.out.past hb).at' (entryRows_get hx)
      clear hx
      have Hc := Lib.hid (Past.cells' hc)
      have Hc2 := Lib.hid (Past.cells' hc2)
      have hki : (k : Int) < (n : Int) := by omega
      clear hc hc2
      unfold Entry.row at Hc Hc2
      go_wp2
      refine wp_region_past (by kernel_rfl) (by kernel_rfl) ?_
      repeat (first | (go_big_quiet_want; (first | (first | (refine quiet_load_agg 78 _ rfl (ad.add (k * 4)) rfl [.int .i64 x.month, .int .i64 x.debit, .int .i64 x.credit, .int .i64 x.amount] Hc.out _ Tryz.underlying78 rfl Entry.size ?_) | (refine quiet_load_agg 78 _ rfl (ad2.add (k * 4)) rfl [.int .i64 x.month, .int .i64 x.debit, .int .i64 x.credit, .int .i64 x.amount] Hc2.out _ Tryz.underlying78 rfl Entry.size ?_))); go_simp; go_big_quiet_on) | go_big_quiet_step (fail))
      refine wpQuiet_nil ?_
      rintro _ ⟨y, rfl⟩
      go_wp2
      go_roundw
      case rel => exact ⟨k + 1, by omega, by go_num, hb.trans (y.2.mono hb.size)⟩
      case measure => simp [intOf]; omega
    · have hki : ¬ (k : Int) < (n : Int) := by omega
      go_wp2
      go_ret
      exact ⟨rfl, hb⟩
end Go.Proofs.YtlbllonpodckgaaGreatDoor
