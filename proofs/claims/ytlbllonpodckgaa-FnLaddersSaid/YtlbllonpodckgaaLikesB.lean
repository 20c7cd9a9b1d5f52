/- Equal lists of bonds are like each other. -/
import Derived.Test.YtlbllonpodckgaaLikes
import Derived.Test.YtlbllonpodckgaaStBond
namespace Go.Proofs.Ytlbllonpodckgaa
open Go.RowKit Go.BigFrame

theorem likeBonds9_any (A : Option Addr) (n cap : Nat) (A2 : Option Addr) (cap2 : Nat) (xs : List Bond) (w : World) (hl : xs.length = n) (hn : n ≤ 1048576) (hX : Rd w w.heap.size A 3 (bondRows xs)) (hX2 : Rd w w.heap.size A2 3 (bondRows xs)) :
    Calls Try.prog 25 #[.slice A n cap, .slice A2 n cap2] w fun e w' => e = .returned (.bool true) ∧ Below w.heap.size w w' := by
  have HX := Lib.hid hX; clear hX
  have HX2 := Lib.hid hX2; clear hX2
  have HL := Lib.hid hl; clear hl
  go_enter Try.func25, Try.ntmps25
  go_wp2
  go_loopw [5] (fun i wr => ∃ k : Nat, k ≤ n ∧ i = .int .i64 k ∧ Below w.heap.size w wr) (fun i _ => n - (intOf i).toNat)
  case atStart => exact ⟨0, by omega, rfl, Below.refl _ _⟩
  case round =>
    obtain ⟨k, hk, rfl, hb⟩ := hrel
    by_cases hlt : k < n
    · obtain ⟨x, hx⟩ := get_of_lt (xs := xs) (k := k) (by rw [HL.out]; exact hlt)
      obtain ⟨ad, rfl, had, _, hc⟩ := (HX.out.past hb).at' (bondRows_get hx)
      obtain ⟨ad2, rfl, had2, _, hc2⟩ := (HX2.out.past hb).at' (bondRows_get hx)
      clear hx
      have Hc := Lib.hid (Past.cells' hc)
      have Hc2 := Lib.hid (Past.cells' hc2)
      have hki : (k : Int) < (n : Int) := by omega
      clear hc hc2
      unfold Bond.row at Hc Hc2
      go_wp2
      refine wp_region_past (by kernel_rfl) (by kernel_rfl) ?_
      repeat (first | (go_big_quiet_want; (first | (first | (refine quiet_load_agg 66 _ rfl (ad.add (k * 3)) rfl [.int .i64 x.nominal, .int .i64 x.coupon, .int .i64 x.years] Hc.out _ Try.underlying66 rfl Bond.size ?_) | (refine quiet_load_agg 66 _ rfl (ad2.add (k * 3)) rfl [.int .i64 x.nominal, .int .i64 x.coupon, .int .i64 x.years] Hc2.out _ Try.underlying66 rfl Bond.size ?_))); go_simp; go_big_quiet_on) | go_big_quiet_step (fail))
      refine wpQuiet_nil ?_
      rintro _ ⟨y, rfl⟩
      go_wp2
      go_roundw
      case rel => exact ⟨k + 1, by omega, by go_num, hb.trans (y.2.mono hb.size)⟩
      case measure => simp [intOf]; omega
    · have hki : ¬ (k : Int) < (n : Int) := by omega
      go_wp2
      go_ret
      exact ⟨rfl, hb⟩
end Go.Proofs.Ytlbllonpodckgaa
