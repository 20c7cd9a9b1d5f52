/- What the law on life tables leans on: tables are compared; what a table's text says. -/
import Derived.Test.YtlbllonpodckgaaGreatDoorTabD
import Derived.Test.YtlbllonpodckgaaGreatDoorLikes
namespace Go.Proofs.YtlbllonpodckgaaGreatDoor
open Go.RowKit Go.BigFrame
set_option maxHeartbeats 1000000 in
theorem likeTables9_any (f : Int) (A : Option Addr) (n cap : Nat) (A2 : Option Addr) (cap2 : Nat) (xs : List Int) (w : World) (hl : xs.length = n) (hn : n ≤ 1048576) (hX : Rd w w.heap.size A 1 (intRows xs)) (hX2 : Rd w w.heap.size A2 1 (intRows xs)) :
    Calls Tryz.prog 53 #[.agg #[.int .i64 f, .slice A n cap], .agg #[.int .i64 f, .slice A2 n cap2]] w fun e w' => e = .returned (.bool true) ∧ Below w.heap.size w w' := by
  have hb : Below w.heap.size w ((w.alloc (.cells #[.int .i64 f, .slice A n cap] 40)).alloc (.cells #[.int .i64 f, .slice A2 n cap2] 40)) := ((Below.refl _ w).alloc (Nat.le_refl _) _).alloc (by simp) _
  have HX := Lib.hid (hX.past hb)
  have HX2 := Lib.hid (hX2.past hb)
  have HB := Lib.hid hb
  clear hX hX2 hb
  go_enter Tryz.func53, Tryz.ntmps53
  go_wp2_with (go_at_call 93; refine (likeInts_any A n cap A2 cap2 xs _ hl hn HX.out HX2.out).mono ?_; rintro e w' ⟨rfl, hb⟩)
  go_ret
  exact ⟨rfl, HB.out.trans (hb.mono HB.out.size)⟩
theorem numsL_ne (n : Int) (ns : List Int) : numsL (n :: ns) ≠ [] := by
  intro h
  have h1 := cut_nums (n :: ns) (by simp)
  rw [h] at h1
  have h2 : ([] : List UInt8) = decL n := by
    have h3 := congrArg (fun l => l[0]?) h1
    simpa [cutL] using h3
  have h4 := dec_pos n.toNat
  have h5 : decL n = Lib.decDigits n.toNat := rfl
  rw [← h5, ← h2] at h4
  simp at h4
theorem textP_yes {f : Int} {xs : List Int} (h : tableB f xs = true) : textP f xs = numsL (f :: xs) := by unfold textP; rw [if_pos h]
theorem textP_no {f : Int} {xs : List Int} (h : tableB f xs = false) : textP f xs = [] := by unfold textP; rw [h]; rfl
theorem isEmpty_S {l : List UInt8} (h : l ≠ []) : (S l).toList.isEmpty = false := isEmpty_ne (fun e => h (S_inj (e.trans (show (⟨#[]⟩ : ByteArray) = S [] from rfl))))
theorem lives_end {f age : Int} {xs : List Int} (h : tableB f xs = true) (h0 : f ≤ age) (h1 : age ≤ 150) : lv xs ((age - f).toNat + (151 - age).toNat) = 0 := by
  have T := table_ok h
  have h2 := T.top
  exact T.zero _ (by omega)
theorem deaths_at {f a : Int} {xs : List Int} (h : tableB f xs = true) (h0 : f ≤ a) (h1 : a ≤ 150) : deathsP f xs a = (lv xs (a - f).toNat - lv xs ((a - f).toNat + 1), 0) := by
  unfold deathsP
  have h2 : ageP f xs a = 0 := by unfold ageP; rw [if_pos h, if_pos (inR_true.2 ⟨h0, h1⟩)]
  rw [if_pos h2]
theorem deaths_good {f a : Int} {xs : List Int} (h : (deathsP f xs a).2 = 0) : ageP f xs a = 0 ∧ (livesP f xs a).1 = lv xs (a - f).toNat := by
  have h1 : ageP f xs a = 0 := by
    unfold deathsP at h
    split at h
    · rename_i h2; exact h2
    · exact h
  refine ⟨h1, ?_⟩
  unfold livesP
  rw [if_pos h1]
theorem codes_eq (f a : Int) (xs : List Int) : (livesP f xs a).2 = (deathsP f xs a).2 := by
  unfold livesP deathsP
  split <;> rfl
end Go.Proofs.YtlbllonpodckgaaGreatDoor
