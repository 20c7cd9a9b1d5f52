/- The helper functions of the laws for []int64: a copy, a comparison, marks. Each contract holds for every argument of the stated shape. -/
import Derived.Test.YtlbllonpodckgaaLaw
namespace Go.Proofs.Ytlbllonpodckgaa
open Go.RowKit Go.BigFrame

theorem Int64.info : (Try.prog.info? 2).map (fun i => (i.zero, i.size, i.bytes)) = some (some (.int .i64 0), 1, 8) := by kernel_rfl


theorem ints_of_nums : ∀ (rows : List (List Int)), (∀ r ∈ rows, r.length = 1 ∧ ∀ z ∈ r, In64 z) → ∃ xs : List Int, xs.length = rows.length ∧ intRows xs = numRows rows ∧ ∀ x ∈ xs, In64 x
  | [], _ => ⟨[], rfl, rfl, by simp⟩
  | q :: rest, h => by
    obtain ⟨xs, hl, hr, hf⟩ := ints_of_nums rest fun r hr => h r (by simp [hr])
    obtain ⟨hq, hz⟩ := h q (by simp)
    match q, hq with
    | [z0], _ =>
      refine ⟨z0 :: xs, by simp [hl], by rw [intRows, List.map_cons, numRows, List.map_cons, ← numRows, ← hr]; rfl, fun x hx => ?_⟩
      rcases List.mem_cons.1 hx with rfl | hx
      · exact hz _ (by simp)
      · exact hf x hx

theorem fillInt {cs : Array Value} {xs : List Int} {k : Nat} {x : Int} (h : Filled cs 1 (intRows xs) k) (hx : xs[k]? = some x) (hfit : k < cs.size) : Filled (cs.setIfInBounds k (.int .i64 x)) 1 (intRows xs) (k + 1) := by
  have := h.step (r := [.int .i64 x]) (intRows_get hx) rfl (intRows_all xs) (by omega)
  have e : putAt cs (k * 1) [.int .i64 x] = cs.setIfInBounds k (.int .i64 x) := by
    apply Array.ext_getElem?
    intro i
    rw [putAt_get (by simp; omega), Array.getElem?_setIfInBounds]
    simp only [Nat.mul_one, List.length_singleton]
    by_cases h1 : i < k
    · rw [if_pos h1, if_neg (by omega)]
    · by_cases h2 : i < k + 1
      · have : i = k := by omega
        subst this
        simp [hfit]
      · rw [if_neg h1, if_neg h2, if_neg (by omega)]
  rwa [e] at this

set_option maxHeartbeats 400000 in
theorem toInt64S_any (A : Option Addr) (n cap : Nat) (xs : List Int) (w : World) (hn : n ≤ 1048576) (hl : xs.length = n) (hX : Rd w w.heap.size A 1 (intRows xs)) :
    Calls Try.prog 13 #[.slice A n cap] w fun e' w' => ∃ g, e' = .returned (.slice (some ⟨g, 0, none⟩) n n) ∧ Res w.heap.size w' 2 1 (some ⟨g, 0, none⟩) n n (intRows xs) ∧ Below w.heap.size w w' := by
  obtain ⟨i0, hi0, hz0, hz1, hz2⟩ := info_parts Int64.info
  have hmk := fun W => run_make_rowN (P := Try.prog) 33 2 i0 _ Try.underlying33 hi0 hz0 .i64 .i64 n n (Nat.le_refl _) (by rw [hz2]; omega) (by omega) W
  rw [hz1] at hmk
  have HX := Lib.hid hX; clear hX
  have HL := Lib.hid hl; clear hl
  clear hi0 hz0 hz1 hz2
  go_enter Try.func13, Try.ntmps13
  go_wp2
  clear hmk
  go_loopw [4] (fun i wr => ∃ k : Nat, k ≤ n ∧ i = .int .i64 k ∧ (∃ cs, Blk wr w.heap.size 2 cs ∧ cs.size = n * 1 ∧ Filled cs 1 (intRows xs) k) ∧ Below w.heap.size w wr) (fun i _ => n - (intOf i).toNat)
  case atStart => exact ⟨0, by omega, rfl, ⟨_, Blk.new _ _ _, by simp [madeCells], Filled.zero⟩, (Below.refl _ _).alloc (Nat.le_refl _) _⟩
  case round =>
    obtain ⟨k, hk, rfl, ⟨cs, hcs, hsz, hcs2⟩, hb⟩ := hrel
    have Hcs2 := Lib.hid hcs2; clear hcs2
    have Hsz := Lib.hid hsz; clear hsz
    by_cases hlt : k < n
    · obtain ⟨x, hx⟩ := get_of_lt (xs := xs) (k := k) (by rw [HL.out]; exact hlt)
      obtain ⟨ad, rfl, had, hc⟩ := (HX.out.below hb).int_at hx
      have Hx := Lib.hid hx; clear hx
      have hfit : k < cs.size := by rw [Hsz.out]; omega
      obtain ⟨v0, e0⟩ := hcs.has hfit
      have f0 := hcs.frozen k
      have Hcs := Lib.hid hcs; clear hcs
      go_wp2
      go_roundw
      case rel => exact ⟨k + 1, by omega, by go_num, ⟨_, Hcs.out.set_ _ _, by simpa using Hsz.out, fillInt Hcs2.out Hx.out hfit⟩, hb.setCell (Nat.le_refl _) _⟩
      case measure => simp [intOf]; omega
    · have hkn : k = n := by omega
      subst hkn
      have Hcs := Lib.hid hcs; clear hcs
      go_wp2
      go_ret
      refine ⟨w.heap.size, rfl, Filled.res Hcs.out Hcs2.out (by rw [intRows_length, HL.out]) Hsz.out (Nat.le_refl _) (by unfold maxLen; omega) (intRows_all xs), hb⟩

set_option maxHeartbeats 400000 in
theorem eqInt64S_any (A A' : Option Addr) (n cap cap' : Nat) (xs : List Int) (w : World) (hn : n ≤ 140737488355328) (hl : xs.length = n) (hX : Rd w w.heap.size A 1 (intRows xs)) (hX' : Rd w w.heap.size A' 1 (intRows xs)) :
    Calls Try.prog 16 #[.slice A n cap, .slice A' n cap'] w fun e' w' => e' = .returned (.bool true) ∧ Below w.heap.size w w' := by
  have HX := Lib.hid hX; clear hX
  have HX' := Lib.hid hX'; clear hX'
  have HL := Lib.hid hl; clear hl
  go_enter Try.func16, Try.ntmps16
  go_wp2
  go_loopw [5] (fun i wr => ∃ k : Nat, k ≤ n ∧ i = .int .i64 k ∧ Below w.heap.size w wr) (fun i _ => n - (intOf i).toNat)
  case atStart => exact ⟨0, by omega, rfl, Below.refl _ _⟩
  case round =>
    obtain ⟨k, hk, rfl, hb⟩ := hrel
    by_cases hlt : k < n
    · obtain ⟨x, hx⟩ := get_of_lt (xs := xs) (k := k) (by rw [HL.out]; exact hlt)
      obtain ⟨ad, rfl, had, hc⟩ := (HX.out.below hb).int_at hx
      obtain ⟨ad', rfl, had', hc'⟩ := (HX'.out.below hb).int_at hx
      clear hx
      go_wp2
      go_quiet (fail)
      go_wp2
      go_roundw
      case rel => exact ⟨k + 1, by omega, by go_num, below_drewN hb _⟩
      case measure => simp [intOf]; omega
    · go_wp2
      go_ret
      exact ⟨rfl, hb⟩

set_option maxHeartbeats 1000000 in
theorem markInt64S_any (B : Nat) (A : Option Addr) (n cap k0 : Nat) (rows : List (List Value)) (w : World) (hn : n ≤ 1048576) (hk0 : k0 ≤ 1000000000) (hR : Res B w 2 1 A n cap rows) :
    Calls Try.prog 17 #[.slice A n cap, .int .i64 (k0 : Int)] w fun e' w' => e' = .returned (.int .i64 ((k0 : Int) + n)) ∧ Turned w w' A n ∧ Marked w' A n 1 k0 := by
  have hA : 0 < n → ∃ g cs, A = some ⟨g, 0, none⟩ ∧ Blk w g 2 cs ∧ n ≤ cs.size := fun h => by
    obtain ⟨g, cs, e, _, hb, hs, _⟩ := hR.at_ h; exact ⟨g, cs, e, hb, by omega⟩
  clear hR
  have HA := Lib.hid hA; clear hA
  go_enter Try.func17, Try.ntmps17
  go_wp2
  go_loopw [1, 5] (fun q i wr => ∃ k : Nat, k ≤ n ∧ i = .int .i64 k ∧ q = .int .i64 ((k0 : Int) + k) ∧ ((k = 0 ∧ w = wr) ∨ (0 < n ∧ ∃ g cs, A = some ⟨g, 0, none⟩ ∧ Blk wr g 2 cs ∧ n ≤ cs.size ∧ (∀ j : Nat, j < k → cs[j]? = some (.int .i64 ((k0 : Int) + j))) ∧ w.grownBy wr (some g)))) (fun _ i _ => n - (intOf i).toNat)
  case atStart => exact ⟨0, by omega, rfl, by simp, .inl ⟨rfl, rfl⟩⟩
  case round =>
    obtain ⟨k, hk, rfl, rfl, hrel⟩ := hrel
    have Hrel := Lib.hid hrel; clear hrel
    by_cases hlt : k < n
    · obtain ⟨g, cs, rfl, hcs, hsz, hcs2, hg⟩ : ∃ g cs, A = some ⟨g, 0, none⟩ ∧ Blk wr g 2 cs ∧ n ≤ cs.size ∧ (∀ j : Nat, j < k → cs[j]? = some (.int .i64 ((k0 : Int) + j))) ∧ w.grownBy wr (some g) := by
        rcases Hrel.out with ⟨rfl, rfl⟩ | ⟨_, g, cs, r⟩
        · obtain ⟨g, cs, e, hb, hs⟩ := HA.out (by omega)
          exact ⟨g, cs, e, hb, hs, fun j hj => absurd hj (by omega), World.grownBy.refl _ _⟩
        · exact ⟨g, cs, r⟩
      clear Hrel HA
      obtain ⟨v0, e0⟩ := hcs.has (i := k) (by omega)
      have f0 := hcs.frozen k
      have Hcs2 := Lib.hid hcs2; clear hcs2
      have Hcs := Lib.hid hcs; clear hcs
      have Hg := Lib.hid hg; clear hg
      go_wp2
      go_roundw
      case rel => exact ⟨k + 1, by omega, by go_num, by go_num, .inr ⟨by omega, g, _, rfl, Hcs.out.set_ _ _, by simpa using hsz, marks_step Hcs2.out (by omega) (by go_num), grown_set Hg.out _ _⟩⟩
      case measure => simp [intOf]; omega
    · have hkn : k = n := by omega
      subst hkn
      go_wp2
      go_ret
      refine ⟨rfl, ?_⟩
      rcases Hrel.out with ⟨rfl, rfl⟩ | ⟨h0, g, cs, rfl, hb, hs, hc, hg⟩
      · exact ⟨.inl rfl, .inl rfl⟩
      · exact ⟨.inr ⟨h0, g, rfl, hg⟩, .inr ⟨g, rfl, hb.lt, fun j hj => by rw [hb.cell]; exact hc j (by omega)⟩⟩

theorem markInt64S_at (B : Nat) (A : Option Addr) (n cap k0 : Nat) (k : Int) (rows : List (List Value)) (w : World) (hn : n ≤ 1048576) (hk0 : k0 ≤ 1000000000) (hR : Res B w 2 1 A n cap rows) (hk : k = (k0 : Int)) :
    Calls Try.prog 17 #[.slice A n cap, .int .i64 k] w fun e' w' => e' = .returned (.int .i64 (k + n)) ∧ Turned w w' A n ∧ Marked w' A n 1 k0 := by
  subst hk; exact markInt64S_any B A n cap k0 rows w hn hk0 hR
end Go.Proofs.Ytlbllonpodckgaa
