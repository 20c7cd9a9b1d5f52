/- Turnovers and balances of accounts: the program's and the reference's contracts over one plain function each. -/
import Derived.Test.YtoabhnobgdjgkaaDoorLedg
import Derived.Test.YtoabhnobgdjgkaaDoorStInt
namespace Go.Proofs.YtoabhnobgdjgkaaDoor
open Go.RowKit Go.BigFrame

set_option maxHeartbeats 2000000 in
theorem impl_turnover_any (A : Option Addr) (n cap : Nat) (xs : List Entry) (a f t : Int) (w : World) (hl : xs.length = n) (hn : n ≤ 150) (hX : Rd w w.heap.size A 4 (entryRows xs)) (hv : ∀ x ∈ xs, entryB x = true) :
    Calls Tryd.prog 26 #[.slice A n cap, .int .i64 a, .int .i64 f, .int .i64 t] w fun e w' => e = .returned (.tuple #[.int .i64 (dSum xs a f t), .int .i64 (cSum xs a f t)]) ∧ Below w.heap.size w w' := by
  have HX := Lib.hid hX; clear hX
  have HL := Lib.hid hl; clear hl
  have HV := Lib.hid hv; clear hv
  go_enter Tryd.func26, Tryd.ntmps26
  go_wp2
  go_loopw [10, 11, 16] (fun d c i wr => ∃ k : Nat, k ≤ n ∧ i = .int .i64 k ∧ d = .int .i64 (dSum (xs.take k) a f t) ∧ c = .int .i64 (cSum (xs.take k) a f t) ∧ Below w.heap.size w wr) (fun _ _ i _ => n - (intOf i).toNat)
  case atStart => exact ⟨0, by omega, rfl, rfl, rfl, Below.refl _ _⟩
  case round =>
    obtain ⟨k, hk, rfl, rfl, rfl, hb⟩ := hrel
    by_cases hlt : k < n
    rotate_left
    · have hkn : k = n := by omega
      subst hkn
      go_wp2
      go_ret2
      exact ⟨by rw [take_all HL.out]; rfl, hb⟩
    obtain ⟨x, hx⟩ := get_of_lt (xs := xs) (k := k) (by rw [HL.out]; exact hlt)
    obtain ⟨ad, rfl, had, _, hc⟩ := (HX.out.below hb).at' (entryRows_get hx)
    have Hc := Lib.hid hc; clear hc
    have Hx := Lib.hid hx; clear hx
    have hef := entry_facts (HV.out x (List.mem_of_getElem? Hx.out))
    obtain ⟨_, _, _, hdc, ha1, ha2⟩ := hef
    have HDC := Lib.hid hdc; clear hdc
    have hdb := dSum_bound a f t (take_valid HV.out k) (by simp; omega)
    have hcb := cSum_bound a f t (take_valid HV.out k) (by simp; omega)
    obtain ⟨hd1, hd2⟩ := hdb
    obtain ⟨hc1, hc2⟩ := hcb
    have HD := Lib.hid (dSum_snoc a f t Hx.out)
    have HC := Lib.hid (cSum_snoc a f t Hx.out)
    have hb2 : ∀ o, Below w.heap.size w (wr.alloc o) := fun o => hb.alloc hb.size o
    by_cases hr : inR x.month f t = true
    rotate_left
    · have e1 := Lib.hid (show dAmt a f t x = 0 by unfold dAmt; rw [if_neg (fun h => hr h.1)])
      have e2 := Lib.hid (show cAmt a f t x = 0 by unfold cAmt; rw [if_neg (fun h => hr h.1)])
      have hr' : inR x.month f t = false := by simpa using hr
      clear hr
      go_wp2_with (first | (refine wpList_load_agg rfl 51 _ rfl (ad.add (k * 4)) rfl [.int .i64 x.month, .int .i64 x.debit, .int .i64 x.credit, .int .i64 x.amount] Hc.out _ Tryd.underlying51 rfl Entry.size ?_) | (go_at_call 41; refine (impl_inRange_any _ _ _ _).mono ?_; rintro e w' ⟨rfl, rfl⟩))
      go_roundw
      case rel => exact ⟨k + 1, by omega, by go_num, by rw [HD.out, e1.out, Int.add_zero], by rw [HC.out, e2.out, Int.add_zero], hb2 _⟩
      case measure => simp [intOf]; omega
    by_cases h1 : a = x.debit
    · have e1 := Lib.hid (show dAmt a f t x = x.amount by unfold dAmt; rw [if_pos ⟨hr, h1.symm⟩])
      have e2 := Lib.hid (show cAmt a f t x = 0 by unfold cAmt; rw [if_neg (fun h => HDC.out (h1.symm.trans h.2.symm))])
      have t1 : (a == x.debit) = true := by simpa using h1
      have H1 := Lib.hid h1; clear h1
      go_wp2_with (first | (refine wpList_load_agg rfl 51 _ rfl (ad.add (k * 4)) rfl [.int .i64 x.month, .int .i64 x.debit, .int .i64 x.credit, .int .i64 x.amount] Hc.out _ Tryd.underlying51 rfl Entry.size ?_) | (go_at_call 41; refine (impl_inRange_any _ _ _ _).mono ?_; rintro e w' ⟨rfl, rfl⟩))
      go_roundw
      case rel => exact ⟨k + 1, by omega, by go_num, by rw [HD.out, e1.out], by rw [HC.out, e2.out, Int.add_zero], hb2 _⟩
      case measure => simp [intOf]; omega
    have t1 : (a == x.debit) = false := by simpa using h1
    have e1 := Lib.hid (show dAmt a f t x = 0 by unfold dAmt; rw [if_neg (fun h => h1 h.2.symm)])
    by_cases h2 : a = x.credit
    · have e2 := Lib.hid (show cAmt a f t x = x.amount by unfold cAmt; rw [if_pos ⟨hr, h2.symm⟩])
      have t2 : (a == x.credit) = true := by simpa using h2
      have H2 := Lib.hid h2; clear h2 h1
      go_wp2_with (first | (refine wpList_load_agg rfl 51 _ rfl (ad.add (k * 4)) rfl [.int .i64 x.month, .int .i64 x.debit, .int .i64 x.credit, .int .i64 x.amount] Hc.out _ Tryd.underlying51 rfl Entry.size ?_) | (go_at_call 41; refine (impl_inRange_any _ _ _ _).mono ?_; rintro e w' ⟨rfl, rfl⟩))
      go_roundw
      case rel => exact ⟨k + 1, by omega, by go_num, by rw [HD.out, e1.out, Int.add_zero], by rw [HC.out, e2.out], hb2 _⟩
      case measure => simp [intOf]; omega
    · have t2 : (a == x.credit) = false := by simpa using h2
      have e2 := Lib.hid (show cAmt a f t x = 0 by unfold cAmt; rw [if_neg (fun h => h2 h.2.symm)])
      clear h1 h2
      go_wp2_with (first | (refine wpList_load_agg rfl 51 _ rfl (ad.add (k * 4)) rfl [.int .i64 x.month, .int .i64 x.debit, .int .i64 x.credit, .int .i64 x.amount] Hc.out _ Tryd.underlying51 rfl Entry.size ?_) | (go_at_call 41; refine (impl_inRange_any _ _ _ _).mono ?_; rintro e w' ⟨rfl, rfl⟩))
      go_roundw
      case rel => exact ⟨k + 1, by omega, by go_num, by rw [HD.out, e1.out, Int.add_zero], by rw [HC.out, e2.out, Int.add_zero], hb2 _⟩
      case measure => simp [intOf]; omega

set_option maxHeartbeats 1000000 in
theorem impl_AccountBalance_any (A : Option Addr) (n cap : Nat) (xs : List Entry) (a u : Int) (w : World) (hl : xs.length = n) (hn : n ≤ 1048576) (hX : Rd w w.heap.size A 4 (entryRows xs)) (hf : ∀ x ∈ xs, x.fits) (_ha : In64 a) (_hu : In64 u) :
    Calls Tryd.prog 12 #[.slice A n cap, .int .i64 a, .int .i64 u] w fun e w' => e = .returned (.tuple #[.int .i64 (accountP xs a u).1, .int .i64 (accountP xs a u).2]) ∧ Below w.heap.size w w' := by
  have HX := Lib.hid hX; clear hX
  have HF := Lib.hid hf; clear hf
  have HL := Lib.hid hl; clear hl
  by_cases hg : ledgerB xs = true
  rotate_left
  · have e : accountP xs a u = (0, 1) := by unfold accountP; rw [if_neg hg]
    rw [e]
    have hg' : ledgerB xs = false := by simpa using hg
    clear hg e
    go_enter Tryd.func12, Tryd.ntmps12
    go_wp2_with (first | (go_at_call 23; refine (impl_IsLedger_any A n cap xs _ HL.out hn HX.out HF.out).mono ?_; rintro e w1 ⟨rfl, hb1⟩))
    go_ret2
    exact ⟨rfl, hb1⟩
  by_cases h1 : inR a 0 9 = true
  rotate_left
  · have e : accountP xs a u = (0, 2) := by unfold accountP; rw [if_pos hg, if_neg (fun h => h1 h.1)]
    rw [e]
    have h1' : inR a 0 9 = false := by simpa using h1
    clear h1 e
    go_enter Tryd.func12, Tryd.ntmps12
    go_wp2_with (first | (go_at_call 23; refine (impl_IsLedger_any A n cap xs _ HL.out hn HX.out HF.out).mono ?_; rintro e w1 ⟨rfl, hb1⟩) | (go_at_call 24; refine (impl_isAccount_any _ _).mono ?_; rintro e w' ⟨rfl, rfl⟩))
    go_ret2
    exact ⟨rfl, hb1⟩
  by_cases h2 : inR u 0 35999 = true
  rotate_left
  · have e : accountP xs a u = (0, 2) := by unfold accountP; rw [if_pos hg, if_neg (fun h => h2 h.2)]
    rw [e]
    have h2' : inR u 0 35999 = false := by simpa using h2
    clear h2 e
    go_enter Tryd.func12, Tryd.ntmps12
    go_wp2_with (first | (go_at_call 23; refine (impl_IsLedger_any A n cap xs _ HL.out hn HX.out HF.out).mono ?_; rintro e w1 ⟨rfl, hb1⟩) | (go_at_call 24; refine (impl_isAccount_any _ _).mono ?_; rintro e w' ⟨rfl, rfl⟩) | (go_at_call 25; refine (impl_isMonth_any _ _).mono ?_; rintro e w' ⟨rfl, rfl⟩))
    go_ret2
    exact ⟨rfl, hb1⟩
  have hlen : n ≤ 150 := by have := ledger_len hg; rw [HL.out] at this; exact this
  have HV := Lib.hid (fun x (hx : x ∈ xs) => ledger_entry hg hx)
  have e : accountP xs a u = (dSum xs a 0 u - cSum xs a 0 u, 0) := by unfold accountP balP; rw [if_pos hg, if_pos ⟨h1, h2⟩]
  rw [e]
  clear e
  have hdb := dSum_bound a 0 u HV.out (by rw [HL.out]; exact hlen)
  have hcb := cSum_bound a 0 u HV.out (by rw [HL.out]; exact hlen)
  obtain ⟨hd1, hd2⟩ := hdb
  obtain ⟨hc1, hc2⟩ := hcb
  go_enter Tryd.func12, Tryd.ntmps12
  go_wp2_with (first | (go_at_call 23; refine (impl_IsLedger_any A n cap xs _ HL.out hn HX.out HF.out).mono ?_; rintro e w1 ⟨rfl, hb1⟩) | (go_at_call 24; refine (impl_isAccount_any _ _).mono ?_; rintro e w' ⟨rfl, rfl⟩) | (go_at_call 25; refine (impl_isMonth_any _ _).mono ?_; rintro e w' ⟨rfl, rfl⟩))
  refine (impl_turnover_any A n cap xs a 0 u _ HL.out hlen (HX.out.past hb1) HV.out).mono ?_
  rintro e w2 ⟨rfl, hb2⟩
  go_wp2
  go_ret2
  exact ⟨rfl, below_step hb1 hb2⟩

set_option maxHeartbeats 1000000 in
theorem impl_TurnoverOf_any (A : Option Addr) (n cap : Nat) (xs : List Entry) (a f t : Int) (w : World) (hl : xs.length = n) (hn : n ≤ 1048576) (hX : Rd w w.heap.size A 4 (entryRows xs)) (hf : ∀ x ∈ xs, x.fits) (_ha : In64 a) (_hf : In64 f) (_ht : In64 t) :
    Calls Tryd.prog 7 #[.slice A n cap, .int .i64 a, .int .i64 f, .int .i64 t] w fun e w' => e = .returned (.tuple #[.int .i64 (turnoverP xs a f t).1, .int .i64 (turnoverP xs a f t).2.1, .int .i64 (turnoverP xs a f t).2.2]) ∧ Below w.heap.size w w' := by
  have HX := Lib.hid hX; clear hX
  have HF := Lib.hid hf; clear hf
  have HL := Lib.hid hl; clear hl
  by_cases hg : ledgerB xs = true
  rotate_left
  · have e : turnoverP xs a f t = (0, 0, 1) := by unfold turnoverP; rw [if_neg hg]
    rw [e]
    have hg' : ledgerB xs = false := by simpa using hg
    clear hg e
    go_enter Tryd.func7, Tryd.ntmps7
    go_wp2_with (first | (go_at_call 23; refine (impl_IsLedger_any A n cap xs _ HL.out hn HX.out HF.out).mono ?_; rintro e w1 ⟨rfl, hb1⟩))
    go_ret3
    exact ⟨rfl, hb1⟩
  by_cases h1 : inR a 0 9 = true
  rotate_left
  · have e : turnoverP xs a f t = (0, 0, 2) := by unfold turnoverP; rw [if_pos hg, if_neg (fun h => h1 h.1)]
    rw [e]
    have h1' : inR a 0 9 = false := by simpa using h1
    clear h1 e
    go_enter Tryd.func7, Tryd.ntmps7
    go_wp2_with (first | (go_at_call 23; refine (impl_IsLedger_any A n cap xs _ HL.out hn HX.out HF.out).mono ?_; rintro e w1 ⟨rfl, hb1⟩) | (go_at_call 24; refine (impl_isAccount_any _ _).mono ?_; rintro e w' ⟨rfl, rfl⟩))
    go_ret3
    exact ⟨rfl, hb1⟩
  by_cases h2 : inR f 0 35999 = true
  rotate_left
  · have e : turnoverP xs a f t = (0, 0, 2) := by unfold turnoverP; rw [if_pos hg, if_neg (fun h => h2 h.2.1)]
    rw [e]
    have h2' : inR f 0 35999 = false := by simpa using h2
    clear h2 e
    go_enter Tryd.func7, Tryd.ntmps7
    go_wp2_with (first | (go_at_call 23; refine (impl_IsLedger_any A n cap xs _ HL.out hn HX.out HF.out).mono ?_; rintro e w1 ⟨rfl, hb1⟩) | (go_at_call 24; refine (impl_isAccount_any _ _).mono ?_; rintro e w' ⟨rfl, rfl⟩) | (go_at_call 25; refine (impl_isMonth_any _ _).mono ?_; rintro e w' ⟨rfl, rfl⟩))
    go_ret3
    exact ⟨rfl, hb1⟩
  by_cases h3 : inR t 0 35999 = true
  rotate_left
  · have e : turnoverP xs a f t = (0, 0, 2) := by unfold turnoverP; rw [if_pos hg, if_neg (fun h => h3 h.2.2)]
    rw [e]
    have h3' : inR t 0 35999 = false := by simpa using h3
    clear h3 e
    go_enter Tryd.func7, Tryd.ntmps7
    go_wp2_with (first | (go_at_call 23; refine (impl_IsLedger_any A n cap xs _ HL.out hn HX.out HF.out).mono ?_; rintro e w1 ⟨rfl, hb1⟩) | (go_at_call 24; refine (impl_isAccount_any _ _).mono ?_; rintro e w' ⟨rfl, rfl⟩) | (go_at_call 25; refine (impl_isMonth_any _ _).mono ?_; rintro e w' ⟨rfl, rfl⟩))
    go_ret3
    exact ⟨rfl, hb1⟩
  have hlen : n ≤ 150 := by have := ledger_len hg; rw [HL.out] at this; exact this
  have HV := Lib.hid (fun x (hx : x ∈ xs) => ledger_entry hg hx)
  have e : turnoverP xs a f t = (dSum xs a f (t - 1), cSum xs a f (t - 1), 0) := by unfold turnoverP; rw [if_pos hg, if_pos ⟨h1, h2, h3⟩]
  rw [e]
  clear e
  have ht := inR_true.1 h3
  obtain ⟨ht1, ht2⟩ := ht
  go_enter Tryd.func7, Tryd.ntmps7
  go_wp2_with (first | (go_at_call 23; refine (impl_IsLedger_any A n cap xs _ HL.out hn HX.out HF.out).mono ?_; rintro e w1 ⟨rfl, hb1⟩) | (go_at_call 24; refine (impl_isAccount_any _ _).mono ?_; rintro e w' ⟨rfl, rfl⟩) | (go_at_call 25; refine (impl_isMonth_any _ _).mono ?_; rintro e w' ⟨rfl, rfl⟩))
  refine (impl_turnover_any A n cap xs a f (t - 1) _ HL.out hlen (HX.out.past hb1) HV.out).mono ?_
  rintro e w2 ⟨rfl, hb2⟩
  go_wp2
  go_ret3
  exact ⟨rfl, below_step hb1 hb2⟩

set_option maxHeartbeats 1000000 in
theorem spec_TurnoverOf_any (A : Option Addr) (n cap : Nat) (xs : List Entry) (a f t : Int) (w : World) (hl : xs.length = n) (hn : n ≤ 1048576) (hX : Rd w w.heap.size A 4 (entryRows xs)) (hf : ∀ x ∈ xs, x.fits) (_ha : In64 a) (_hf : In64 f) (_ht : In64 t) :
    Calls Tryd.prog 8 #[.slice A n cap, .int .i64 a, .int .i64 f, .int .i64 t] w fun e w' => e = .returned (.tuple #[.int .i64 (turnoverP xs a f t).1, .int .i64 (turnoverP xs a f t).2.1, .int .i64 (turnoverP xs a f t).2.2]) ∧ Below w.heap.size w w' := by
  have HX := Lib.hid hX; clear hX
  have HF := Lib.hid hf; clear hf
  have HL := Lib.hid hl; clear hl
  by_cases hg : ledgerB xs = true
  rotate_left
  · have e : turnoverP xs a f t = (0, 0, 1) := by unfold turnoverP; rw [if_neg hg]
    rw [e]
    have hg' : ledgerB xs = false := by simpa using hg
    clear hg e
    go_enter Tryd.func8, Tryd.ntmps8
    go_wp2_with (first | (go_at_call 27; refine (spec_IsLedger_any A n cap xs _ HL.out hn HX.out HF.out).mono ?_; rintro e w1 ⟨rfl, hb1⟩))
    go_ret3
    exact ⟨rfl, hb1⟩
  by_cases h1 : inR a 0 9 = true
  rotate_left
  · have e : turnoverP xs a f t = (0, 0, 2) := by unfold turnoverP; rw [if_pos hg, if_neg (fun h => h1 h.1)]
    rw [e]
    have h1' : inR a 0 9 = false := by simpa using h1
    clear h1 e
    go_enter Tryd.func8, Tryd.ntmps8
    go_wp2_with (first | (go_at_call 27; refine (spec_IsLedger_any A n cap xs _ HL.out hn HX.out HF.out).mono ?_; rintro e w1 ⟨rfl, hb1⟩) | (go_at_call 28; refine (spec_l22Account_any _ _).mono ?_; rintro e w' ⟨rfl, rfl⟩))
    go_ret3
    exact ⟨rfl, hb1⟩
  by_cases h2 : inR f 0 35999 = true
  rotate_left
  · have e : turnoverP xs a f t = (0, 0, 2) := by unfold turnoverP; rw [if_pos hg, if_neg (fun h => h2 h.2.1)]
    rw [e]
    have h2' : inR f 0 35999 = false := by simpa using h2
    clear h2 e
    go_enter Tryd.func8, Tryd.ntmps8
    go_wp2_with (first | (go_at_call 27; refine (spec_IsLedger_any A n cap xs _ HL.out hn HX.out HF.out).mono ?_; rintro e w1 ⟨rfl, hb1⟩) | (go_at_call 28; refine (spec_l22Account_any _ _).mono ?_; rintro e w' ⟨rfl, rfl⟩) | (go_at_call 29; refine (spec_l02Month_any _ _).mono ?_; rintro e w' ⟨rfl, rfl⟩))
    go_ret3
    exact ⟨rfl, hb1⟩
  by_cases h3 : inR t 0 35999 = true
  rotate_left
  · have e : turnoverP xs a f t = (0, 0, 2) := by unfold turnoverP; rw [if_pos hg, if_neg (fun h => h3 h.2.2)]
    rw [e]
    have h3' : inR t 0 35999 = false := by simpa using h3
    clear h3 e
    go_enter Tryd.func8, Tryd.ntmps8
    go_wp2_with (first | (go_at_call 27; refine (spec_IsLedger_any A n cap xs _ HL.out hn HX.out HF.out).mono ?_; rintro e w1 ⟨rfl, hb1⟩) | (go_at_call 28; refine (spec_l22Account_any _ _).mono ?_; rintro e w' ⟨rfl, rfl⟩) | (go_at_call 29; refine (spec_l02Month_any _ _).mono ?_; rintro e w' ⟨rfl, rfl⟩))
    go_ret3
    exact ⟨rfl, hb1⟩
  have hlen : n ≤ 150 := by have := ledger_len hg; rw [HL.out] at this; exact this
  have HV := Lib.hid (fun x (hx : x ∈ xs) => ledger_entry hg hx)
  have e : turnoverP xs a f t = (dSum xs a f (t - 1), cSum xs a f (t - 1), 0) := by unfold turnoverP; rw [if_pos hg, if_pos ⟨h1, h2, h3⟩]
  rw [e]
  clear e
  have ht := inR_true.1 h3
  obtain ⟨ht1, ht2⟩ := ht
  go_enter Tryd.func8, Tryd.ntmps8
  go_wp2_with (first | (go_at_call 27; refine (spec_IsLedger_any A n cap xs _ HL.out hn HX.out HF.out).mono ?_; rintro e w1 ⟨rfl, hb1⟩) | (go_at_call 28; refine (spec_l22Account_any _ _).mono ?_; rintro e w' ⟨rfl, rfl⟩) | (go_at_call 29; refine (spec_l02Month_any _ _).mono ?_; rintro e w' ⟨rfl, rfl⟩))
  go_loopw [11, 12, 13] (fun d c i wr => ∃ k : Nat, k ≤ n ∧ i = .int .i64 k ∧ d = .int .i64 (dSum (xs.take k) a f (t - 1)) ∧ c = .int .i64 (cSum (xs.take k) a f (t - 1)) ∧ Below w.heap.size w wr) (fun _ _ i _ => n - (intOf i).toNat)
  case atStart => exact ⟨0, by omega, rfl, rfl, rfl, hb1⟩
  case round =>
    obtain ⟨k, hk, rfl, rfl, rfl, hb⟩ := hrel
    by_cases hlt : k < n
    rotate_left
    · have hkn : k = n := by omega
      subst hkn
      go_wp2
      go_ret3
      exact ⟨by rw [take_all HL.out]; rfl, hb⟩
    obtain ⟨x, hx⟩ := get_of_lt (xs := xs) (k := k) (by rw [HL.out]; exact hlt)
    obtain ⟨ad, rfl, had, _, hc⟩ := (HX.out.below hb).at' (entryRows_get hx)
    obtain ⟨c0, c1, c2, c3⟩ := Entry.cells hc
    clear hc
    have Hx := Lib.hid hx; clear hx
    have hef := entry_facts (HV.out x (List.mem_of_getElem? Hx.out))
    obtain ⟨_, _, _, hdc, ha1, ha2⟩ := hef
    have HDC := Lib.hid hdc; clear hdc
    have hdb := dSum_bound a f (t - 1) (take_valid HV.out k) (by simp; omega)
    have hcb := cSum_bound a f (t - 1) (take_valid HV.out k) (by simp; omega)
    obtain ⟨hd1, hd2⟩ := hdb
    obtain ⟨hc1, hc2⟩ := hcb
    have HD := Lib.hid (dSum_snoc a f (t - 1) Hx.out)
    have HC := Lib.hid (cSum_snoc a f (t - 1) Hx.out)
    by_cases hr : inR x.month f (t - 1) = true
    rotate_left
    · have e1 := Lib.hid (show dAmt a f (t - 1) x = 0 by unfold dAmt; rw [if_neg (fun h => hr h.1)])
      have e2 := Lib.hid (show cAmt a f (t - 1) x = 0 by unfold cAmt; rw [if_neg (fun h => hr h.1)])
      have hr' : inR x.month f (t - 1) = false := by simpa using hr
      clear hr
      go_wp2_with (first | (go_at_call 30; refine (spec_l01In_any _ _ _ _).mono ?_; rintro e w' ⟨rfl, rfl⟩))
      go_roundw
      case rel => exact ⟨k + 1, by omega, by go_num, by rw [HD.out, e1.out, Int.add_zero], by rw [HC.out, e2.out, Int.add_zero], hb⟩
      case measure => simp [intOf]; omega
    by_cases k1 : x.debit = a
    · have e1 := Lib.hid (show dAmt a f (t - 1) x = x.amount by unfold dAmt; rw [if_pos ⟨hr, k1⟩])
      have k2 : ¬ x.credit = a := fun h => HDC.out (k1.trans h.symm)
      have e2 := Lib.hid (show cAmt a f (t - 1) x = 0 by unfold cAmt; rw [if_neg (fun h => k2 h.2)])
      have t1 : (x.debit == a) = true := by simpa using k1
      have t2 : (x.credit == a) = false := by simpa using k2
      clear k1 k2
      go_wp2_with (first | (go_at_call 30; refine (spec_l01In_any _ _ _ _).mono ?_; rintro e w' ⟨rfl, rfl⟩))
      go_roundw
      case rel => exact ⟨k + 1, by omega, by go_num, by rw [HD.out, e1.out], by rw [HC.out, e2.out, Int.add_zero], hb⟩
      case measure => simp [intOf]; omega
    have t1 : (x.debit == a) = false := by simpa using k1
    have e1 := Lib.hid (show dAmt a f (t - 1) x = 0 by unfold dAmt; rw [if_neg (fun h => k1 h.2)])
    by_cases k2 : x.credit = a
    · have e2 := Lib.hid (show cAmt a f (t - 1) x = x.amount by unfold cAmt; rw [if_pos ⟨hr, k2⟩])
      have t2 : (x.credit == a) = true := by simpa using k2
      clear k1 k2
      go_wp2_with (first | (go_at_call 30; refine (spec_l01In_any _ _ _ _).mono ?_; rintro e w' ⟨rfl, rfl⟩))
      go_roundw
      case rel => exact ⟨k + 1, by omega, by go_num, by rw [HD.out, e1.out, Int.add_zero], by rw [HC.out, e2.out], hb⟩
      case measure => simp [intOf]; omega
    · have t2 : (x.credit == a) = false := by simpa using k2
      have e2 := Lib.hid (show cAmt a f (t - 1) x = 0 by unfold cAmt; rw [if_neg (fun h => k2 h.2)])
      clear k1 k2
      go_wp2_with (first | (go_at_call 30; refine (spec_l01In_any _ _ _ _).mono ?_; rintro e w' ⟨rfl, rfl⟩))
      go_roundw
      case rel => exact ⟨k + 1, by omega, by go_num, by rw [HD.out, e1.out, Int.add_zero], by rw [HC.out, e2.out, Int.add_zero], hb⟩
      case measure => simp [intOf]; omega
end Go.Proofs.YtoabhnobgdjgkaaDoor
