/- The trial balance: the program's and the reference's contracts over one plain function. -/
import Derived.Test.YtoabhnobgdjgkaaLedg2
namespace Go.Proofs.Ytoabhnobgdjgkaa
open Go.RowKit Go.BigFrame

theorem trialBalance_small0 (xs : List Entry) {n : Nat} (_hs : n ≤ 1048576) (_hl : xs.length = n) (_hf : ∀ x ∈ xs, x.fits) : (trialP xs).1.length ≤ 1048576 := by
  unfold trialP; split <;> simp
theorem range_map_snoc (g : Nat → Int) (k : Nat) : (List.range (k + 1)).map g = (List.range k).map g ++ [g k] := by rw [List.range_succ]; simp

set_option maxHeartbeats 2000000 in
theorem impl_TrialBalance_any (A : Option Addr) (n cap : Nat) (xs : List Entry) (w : World) (hl : xs.length = n) (hn : n ≤ 1048576) (hX : Rd w w.heap.size A 4 (entryRows xs)) (hf : ∀ x ∈ xs, x.fits) :
    Calls Try.prog 24 #[.slice A n cap] w fun e w' => ∃ A' n' c', e = .returned (.tuple #[.slice A' n' c', .int .i64 (trialP xs).2]) ∧ Res w.heap.size w' 2 1 A' n' c' (intRows (trialP xs).1) ∧ Below w.heap.size w w' := by
  have HX := Lib.hid hX; clear hX
  have HF := Lib.hid hf; clear hf
  have HL := Lib.hid hl; clear hl
  by_cases hg : ledgerB xs = true
  rotate_left
  · have e : trialP xs = ([], 1) := by unfold trialP; rw [if_neg hg]
    rw [e]
    have hg' : ledgerB xs = false := by simpa using hg
    clear hg e
    go_enter Try.func24, Try.ntmps24
    go_wp2_with (first | (go_at_call 37; refine (impl_IsLedger_any A n cap xs _ HL.out hn HX.out HF.out).mono ?_; rintro e w1 ⟨rfl, hb1⟩))
    go_ret2
    exact ⟨none, 0, 0, rfl, Res.nil_, hb1⟩
  have e : trialP xs = ((List.range 10).map (fun a : Nat => balP xs (a : Int) 36000), 0) := by unfold trialP; rw [if_pos hg]
  rw [e]
  clear e
  have hlen : n ≤ 150 := by have := ledger_len hg; rw [HL.out] at this; exact this
  have HV := Lib.hid (fun x (hx : x ∈ xs) => ledger_entry hg hx)
  obtain ⟨i0, hi0, hz0, hz1, hz2⟩ := info_parts Int64.info
  have Hi := Lib.hid (And.intro hi0 (And.intro hz0 (And.intro hz1 hz2)))
  clear hi0 hz0 hz1 hz2
  go_enter Try.func24, Try.ntmps24
  go_wp2_with (first | (go_at_call 37; refine (impl_IsLedger_any A n cap xs _ HL.out hn HX.out HF.out).mono ?_; rintro e w1 ⟨rfl, hb1⟩))
  have HR0 := Lib.hid (Res.zero w1 w.heap.size 2 1 hb1.size)
  have hb2 : Below w.heap.size w (w1.alloc (.cells #[] 2)) := hb1.alloc hb1.size _
  go_loopw [4, 12] (fun v i wr => ∃ (k : Nat) (B : Option Addr) (c : Nat), k ≤ 10 ∧ i = .int .i64 k ∧ v = .slice B k c ∧ Res w.heap.size wr 2 1 B k c (intRows ((List.range k).map (fun a : Nat => balP xs (a : Int) 36000))) ∧ Below w.heap.size w wr) (fun _ i _ => 10 - (intOf i).toNat)
  case atStart => exact ⟨0, _, _, by omega, rfl, rfl, HR0.out, hb2⟩
  case round =>
    obtain ⟨k, B, c, hk, rfl, rfl, hR, hb⟩ := hrel
    have HR := Lib.hid hR; clear hR
    by_cases hlt : k < 10
    rotate_left
    · have hkn : k = 10 := by omega
      subst hkn
      go_wp2
      go_ret2
      exact ⟨B, 10, c, rfl, HR.out, hb⟩
    have hdb := dSum_bound k 0 36000 HV.out (by rw [HL.out]; exact hlen)
    have hcb := cSum_bound k 0 36000 HV.out (by rw [HL.out]; exact hlen)
    obtain ⟨hd1, hd2⟩ := hdb
    obtain ⟨hc1, hc2⟩ := hcb
    go_wp2_with fail
    refine (impl_turnover_any A n cap xs k 0 36000 _ HL.out hlen ((HX.out.below hb).more hb.size) HV.out).mono ?_
    rintro e w2 ⟨rfl, hb3⟩
    have hb4 : Below w.heap.size w w2 := hb.trans (hb3.mono hb.size)
    have HR2 := Lib.hid (HR.out.past hb3)
    go_wp2_with (at_builtin; refine wpList_append_row w2 rfl (.tmp 21) (.tmp 25) 33 rfl w.heap.size 2 i0 _ 1 8 Try.underlying33 Hi.out.1 Hi.out.2.1 Hi.out.2.2.1 Hi.out.2.2.2 rfl (by decide) (by decide) B k c _ rfl HR2.out [.int .i64 (dSum xs k 0 36000 - cSum xs k 0 36000)] _ rfl rfl (by simp [Value.oneCell']) (by omega) hb4.size ?_)
    intro B' c' w3 hR3 hb5
    have HR3 := Lib.hid hR3; clear hR3
    have hb6 : Below w.heap.size w w3 := hb4.trans hb5
    go_wp2
    go_roundw
    case rel => exact ⟨k + 1, B', c', by omega, by go_num, rfl, by rw [range_map_snoc, intRows_snoc]; exact HR3.out, hb6⟩
    case measure => simp [intOf]; omega
set_option maxHeartbeats 2000000 in
theorem spec_TrialBalance_any (A : Option Addr) (n cap : Nat) (xs : List Entry) (w : World) (hl : xs.length = n) (hn : n ≤ 1048576) (hX : Rd w w.heap.size A 4 (entryRows xs)) (hf : ∀ x ∈ xs, x.fits) :
    Calls Try.prog 25 #[.slice A n cap] w fun e w' => ∃ A' n' c', e = .returned (.tuple #[.slice A' n' c', .int .i64 (trialP xs).2]) ∧ Res w.heap.size w' 2 1 A' n' c' (intRows (trialP xs).1) ∧ Below w.heap.size w w' := by
  have HX := Lib.hid hX; clear hX
  have HF := Lib.hid hf; clear hf
  have HL := Lib.hid hl; clear hl
  by_cases hg : ledgerB xs = true
  rotate_left
  · have e : trialP xs = ([], 1) := by unfold trialP; rw [if_neg hg]
    rw [e]
    have hg' : ledgerB xs = false := by simpa using hg
    clear hg e
    go_enter Try.func25, Try.ntmps25
    go_wp2_with (first | (go_at_call 76; refine (spec_IsLedger_any A n cap xs _ HL.out hn HX.out HF.out).mono ?_; rintro e w1 ⟨rfl, hb1⟩))
    go_ret2
    exact ⟨none, 0, 0, rfl, Res.nil_, hb1⟩
  have e : trialP xs = ((List.range 10).map (fun a : Nat => balP xs (a : Int) 36000), 0) := by unfold trialP; rw [if_pos hg]
  rw [e]
  clear e
  obtain ⟨i0, hi0, hz0, hz1, hz2⟩ := info_parts Int64.info
  have Hi := Lib.hid (And.intro hi0 (And.intro hz0 (And.intro hz1 hz2)))
  clear hi0 hz0 hz1 hz2
  go_enter Try.func25, Try.ntmps25
  go_wp2_with (first | (go_at_call 76; refine (spec_IsLedger_any A n cap xs _ HL.out hn HX.out HF.out).mono ?_; rintro e w1 ⟨rfl, hb1⟩))
  have HR0 := Lib.hid (Res.zero w1 w.heap.size 2 1 hb1.size)
  have hb2 : Below w.heap.size w (w1.alloc (.cells #[] 2)) := hb1.alloc hb1.size _
  go_loopw [4, 5] (fun v i wr => ∃ (k : Nat) (B : Option Addr) (c : Nat), k ≤ 10 ∧ i = .int .i64 k ∧ v = .slice B k c ∧ Res w.heap.size wr 2 1 B k c (intRows ((List.range k).map (fun a : Nat => balP xs (a : Int) 36000))) ∧ Below w.heap.size w wr) (fun _ i _ => 10 - (intOf i).toNat)
  case atStart => exact ⟨0, _, _, by omega, rfl, rfl, HR0.out, hb2⟩
  case round =>
    obtain ⟨k, B, c, hk, rfl, rfl, hR, hb⟩ := hrel
    have HR := Lib.hid hR; clear hR
    by_cases hlt : k < 10
    rotate_left
    · have hkn : k = 10 := by omega
      subst hkn
      go_wp2
      go_ret2
      exact ⟨B, 10, c, rfl, HR.out, hb⟩
    go_wp2_with fail
    refine (spec_l22Balance_any A n cap xs k 36000 _ HL.out ((HX.out.below hb).more hb.size) hg).mono ?_
    rintro e w2 ⟨rfl, rfl⟩
    have HR2 := HR
    go_wp2_with (at_builtin; refine wpList_append_row wr rfl (.tmp 14) (.tmp 18) 33 rfl w.heap.size 2 i0 _ 1 8 Try.underlying33 Hi.out.1 Hi.out.2.1 Hi.out.2.2.1 Hi.out.2.2.2 rfl (by decide) (by decide) B k c _ rfl HR2.out [.int .i64 (balP xs k 36000)] _ rfl rfl (by simp [Value.oneCell']) (by omega) hb.size ?_)
    intro B' c' w3 hR3 hb5
    have HR3 := Lib.hid hR3; clear hR3
    have hb6 : Below w.heap.size w w3 := hb.trans hb5
    go_wp2
    go_roundw
    case rel => exact ⟨k + 1, B', c', by omega, by go_num, rfl, by rw [range_map_snoc, intRows_snoc]; exact HR3.out, hb6⟩
    case measure => simp [intOf]; omega
end Go.Proofs.Ytoabhnobgdjgkaa
