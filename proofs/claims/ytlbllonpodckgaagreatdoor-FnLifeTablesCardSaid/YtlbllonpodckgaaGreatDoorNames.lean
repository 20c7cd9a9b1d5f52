/- The names of the accounts: the program's and the reference's contracts over one plain function. -/
import Derived.Test.YtlbllonpodckgaaGreatDoorDoor
namespace Go.Proofs.YtlbllonpodckgaaGreatDoor
open Go.RowKit Go.BigFrame

def accountName (a : Int) : ByteArray := if inR a 0 9 then nameB a.toNat else ⟨#[]⟩

set_option maxHeartbeats 1000000 in
theorem impl_AccountName_any (a : Int) (w : World) (hN : Names w) :
    Calls Tryz.prog 132 #[.int .i64 a] w fun e w' => e = .returned (.string (accountName a)) ∧ w = w' := by
  have HN := Lib.hid hN; clear hN
  by_cases h : inR a 0 9 = true
  · obtain ⟨h1, h2⟩ := inR_true.1 h
    obtain ⟨k, rfl⟩ := Int.eq_ofNat_of_zero_le h1
    have hk : k < 10 := by omega
    have hc := HN.out k hk
    go_enter Tryz.func132, Tryz.ntmps132
    go_wp2_with (first | (go_at_call 177; refine (impl_isAccount_any _ _).mono ?_; rintro e w' ⟨rfl, rfl⟩))
    go_ret
    exact ⟨by rw [accountName, if_pos h]; rfl, rfl⟩
  · have h' : inR a 0 9 = false := by simpa using h
    have e : accountName a = ⟨#[]⟩ := by rw [accountName, if_neg h]
    have HE := Lib.hid e; clear e
    clear h
    go_enter Tryz.func132, Tryz.ntmps132
    go_wp2_with (first | (go_at_call 177; refine (impl_isAccount_any _ _).mono ?_; rintro e w' ⟨rfl, rfl⟩))
    go_ret
    exact ⟨by rw [HE.out]; rfl, rfl⟩

theorem spec_l22Names_any (w : World) :
    Calls Tryz.prog 118 #[] w fun e w' => e = .returned (.slice (some ⟨w.heap.size, 0, none⟩) 10 10) ∧ w' = w.alloc (.cells (nameL.map Value.string).toArray 9) := by
  go_enter Tryz.func118, Tryz.ntmps118
  go_wp2
  go_ret
  exact ⟨rfl, rfl⟩

end Go.Proofs.YtlbllonpodckgaaGreatDoor
