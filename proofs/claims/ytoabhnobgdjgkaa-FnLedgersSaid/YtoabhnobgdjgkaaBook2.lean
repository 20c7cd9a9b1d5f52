/- Booking and reversing an entry: the contracts. -/
import Derived.Test.YtoabhnobgdjgkaaBook
namespace Go.Proofs.Ytoabhnobgdjgkaa
open Go.RowKit Go.BigFrame

set_option maxRecDepth 100000 in
set_option maxHeartbeats 2000000 in
theorem spec_BookEntry_any (A : Option Addr) (n cap : Nat) (xs : List Entry) (e : Entry) (w : World) (hl : xs.length = n) (hn : n ≤ 1048576) (hX : Rd w w.heap.size A 4 (entryRows xs)) (hf : ∀ x ∈ xs, x.fits) (_he : e.fits) :
    Calls Try.prog 34 #[.slice A n cap, .agg e.row.toArray] w fun r w' => ∃ A' n' c', r = .returned (.tuple #[.slice A' n' c', .int .i64 (bookP xs e).2]) ∧ Res w.heap.size w' 56 4 A' n' c' (entryRows (bookP xs e).1) ∧ Below w.heap.size w w' := by
  have hw0 : Below w.heap.size w (w.alloc (.cells e.row.toArray 56)) := (Below.refl _ _).alloc (Nat.le_refl _) _
  have HX := Lib.hid (hX.past hw0); clear hX
  have HF := Lib.hid hf; clear hf
  have HL := Lib.hid hl; clear hl
  have HS := Lib.hid (book_box (w := w) (e := e) (t := 56))
  by_cases hg : ledgerB xs = true
  rotate_left
  · have q : bookP xs e = ([], 1) := by unfold bookP; rw [if_neg hg]
    have Q := Lib.hid q; clear q
    have hg' : ledgerB xs = false := by simpa using hg
    clear hg
    go_enter Try.func34, Try.ntmps34
    go_wp2_with (first | (go_at_call 76; refine (spec_IsLedger_any A n cap xs _ HL.out hn HX.out HF.out).mono ?_; rintro e w1 ⟨rfl, hb1⟩))
    go_ret2
    exact ⟨none, 0, 0, by rw [Q.out]; rfl, by rw [Q.out]; exact Res.nil_, hw0.trans (hb1.mono (by simp))⟩
  have HG := Lib.hid hg
  go_enter Try.func34, Try.ntmps34
  go_wp2_with fail
  refine (spec_IsLedger_any A n cap xs _ HL.out hn HX.out HF.out).mono ?_
  rintro r w1 ⟨rfl, hb1⟩
  have HB1 := Lib.hid (hb1.mono (show w.heap.size + 1 ≤ _ by simp))
  have HX1 := Lib.hid (HX.out.past hb1)
  clear hb1
  obtain ⟨c0, c1, c2, c3⟩ := HS.out w1 HB1.out
  by_cases he : entryB e = true
  rotate_left
  · have q : bookP xs e = ([], 2) := by unfold bookP; rw [if_pos HG.out, if_neg he]
    have Q := Lib.hid q; clear q
    have he' : entryB e = false := by simpa using he
    clear he
    go_wp2_with (first | (go_at_call 89; refine (spec_l22Entry_any e _).mono ?_; rintro e w2 ⟨rfl, hb2⟩))
    go_ret2
    exact ⟨none, 0, 0, by rw [Q.out]; rfl, by rw [Q.out]; exact Res.nil_, hw0.trans ((HB1.out.trans (hb2.mono (by have := HB1.out.size; simp at this; omega))).mono (by omega))⟩
  have q : bookP xs e = addP xs e := by unfold bookP; rw [if_pos HG.out, if_pos he]
  have Q := Lib.hid q; clear q
  go_wp2_with fail
  refine (spec_l22Entry_any e _).mono ?_
  rintro r w2 ⟨rfl, hb2⟩
  have HB2 := Lib.hid (HB1.out.trans (hb2.mono (by have := HB1.out.size; simp at this; omega)))
  have HX2 := Lib.hid (HX1.out.past hb2)
  clear hb2 c0 c1 c2 c3
  have hlen : n ≤ 150 := by have := ledger_len HG.out; have := HL.out; omega
  obtain ⟨c0, c1, c2, c3⟩ := HS.out w2 HB2.out
  have hz2 : w.heap.size ≤ w2.heap.size := by have := HB2.out.size; simp at this; omega
  go_wp2_with fail
  refine (spec_l22Add_any A n cap xs e _ HL.out hlen HX2.out).mono ?_
  rintro r w3 ⟨A', n', c', rfl, hR, hb3⟩
  have HR := Lib.hid hR; clear hR
  have HB3 := Lib.hid (hw0.trans ((HB2.out.mono (by omega)).trans (hb3.mono hz2)))
  clear hb3 c0 c1 c2 c3
  go_wp2
  go_ret2
  exact ⟨A', n', c', by rw [Q.out]; rfl, by rw [Q.out]; exact HR.out.more hz2, HB3.out⟩

def turnE (x : Entry) (m : Int) : Entry := ⟨m, x.credit, x.debit, x.amount⟩
def reverseP (xs : List Entry) (i m : Int) : List Entry × Int :=
  if ledgerB xs then (if inR i 0 ((xs.length : Int) - 1) then (match xs[i.toNat]? with
    | some x => bookP xs (turnE x m)
    | none => ([], 2)) else ([], 2)) else ([], 1)
theorem turn_valid {x : Entry} {m : Int} (h : entryB x = true) : entryB (turnE x m) = inR m 0 35999 := by
  obtain ⟨_, h1, h2, h3, h4⟩ := entry_facts h
  have e1 : inR x.credit 0 9 = true := inR_mk h2
  have e2 : inR x.debit 0 9 = true := inR_mk h1
  have e3 : inR x.amount 1 1000000000 = true := inR_mk h4
  have e4 : (x.credit != x.debit) = true := by simpa using fun h => h3 h.symm
  simp [entryB, turnE, e1, e2, e3, e4]
theorem turn_fits {x : Entry} {m : Int} (h : x.fits) (hm : In64 m) : (turnE x m).fits := ⟨hm, h.2.2.1, h.2.1, h.2.2.2⟩

set_option maxRecDepth 100000 in
set_option maxHeartbeats 2000000 in
theorem impl_ReverseEntry_any (A : Option Addr) (n cap : Nat) (xs : List Entry) (i m : Int) (w : World) (hl : xs.length = n) (hn : n ≤ 1048576) (hX : Rd w w.heap.size A 4 (entryRows xs)) (hf : ∀ x ∈ xs, x.fits) (_hi : In64 i) (hm : In64 m) :
    Calls Try.prog 30 #[.slice A n cap, .int .i64 i, .int .i64 m] w fun r w' => ∃ A' n' c', r = .returned (.tuple #[.slice A' n' c', .int .i64 (reverseP xs i m).2]) ∧ Res w.heap.size w' 56 4 A' n' c' (entryRows (reverseP xs i m).1) ∧ Below w.heap.size w w' := by
  have HX := Lib.hid hX; clear hX
  have HF := Lib.hid hf; clear hf
  have HL := Lib.hid hl; clear hl
  have HM := Lib.hid hm; clear hm
  by_cases hg : ledgerB xs = true
  rotate_left
  · have q : reverseP xs i m = ([], 1) := by unfold reverseP; rw [if_neg hg]
    have Q := Lib.hid q; clear q
    have hg' : ledgerB xs = false := by simpa using hg
    clear hg
    go_enter Try.func30, Try.ntmps30
    go_wp2_with (first | (go_at_call 37; refine (impl_IsLedger_any A n cap xs _ HL.out hn HX.out HF.out).mono ?_; rintro e w1 ⟨rfl, hb1⟩))
    go_ret2
    exact ⟨none, 0, 0, by rw [Q.out]; rfl, by rw [Q.out]; exact Res.nil_, hb1⟩
  have HG := Lib.hid hg
  by_cases hr : inR i 0 ((n : Int) - 1) = true
  rotate_left
  · have q : reverseP xs i m = ([], 2) := by unfold reverseP; rw [if_pos HG.out, HL.out, if_neg hr]
    have Q := Lib.hid q; clear q
    have hr' : inR i 0 ((n : Int) - 1) = false := by simpa using hr
    clear hr
    go_enter Try.func30, Try.ntmps30
    go_wp2_with (first | (go_at_call 37; refine (impl_IsLedger_any A n cap xs _ HL.out hn HX.out HF.out).mono ?_; rintro e w1 ⟨rfl, hb1⟩) | (go_at_call 85; refine (entriesLen_any _ _ _ _).mono ?_; rintro e w' ⟨rfl, rfl⟩) | (go_at_call 67; refine (impl_inRange_any _ _ _ _).mono ?_; rintro e w' ⟨rfl, rfl⟩))
    go_ret2
    exact ⟨none, 0, 0, by rw [Q.out]; rfl, by rw [Q.out]; exact Res.nil_, hb1⟩
  obtain ⟨h1, h2⟩ := inR_true.1 hr
  obtain ⟨k, rfl⟩ := Int.eq_ofNat_of_zero_le h1
  have hk : k < n := by omega
  obtain ⟨x, hx⟩ := get_of_lt (xs := xs) (k := k) (by rw [HL.out]; exact hk)
  have q : reverseP xs k m = bookP xs (turnE x m) := by unfold reverseP; rw [if_pos HG.out, HL.out, if_pos hr]; simp [hx]
  have Q := Lib.hid q; clear q
  have HT := Lib.hid (turn_fits (HF.out x (List.mem_of_getElem? hx)) HM.out)
  go_enter Try.func30, Try.ntmps30
  go_wp2_with fail
  refine (impl_IsLedger_any A n cap xs _ HL.out hn HX.out HF.out).mono ?_
  rintro r w1 ⟨rfl, hb1⟩
  have HB1 := Lib.hid hb1
  have HX1 := Lib.hid (HX.out.past hb1)
  have HX2 := Lib.hid (HX1.out.past ((Below.refl _ w1).alloc (Nat.le_refl _) (.cells #[.int .i64 x.month, .int .i64 x.debit, .int .i64 x.credit, .int .i64 x.amount] 56)))
  clear hb1
  obtain ⟨ad, rfl, had, _, hc⟩ := HX1.out.at' (entryRows_get hx)
  have Hc := Lib.hid hc; clear hc
  go_wp2_with (first | (go_at_call 85; refine (entriesLen_any _ _ _ _).mono ?_; rintro e w' ⟨rfl, rfl⟩) | (go_at_call 67; refine (impl_inRange_any _ _ _ _).mono ?_; rintro e w' ⟨rfl, rfl⟩) | (refine wpList_load_agg rfl 56 _ rfl (ad.add (k * 4)) rfl [.int .i64 x.month, .int .i64 x.debit, .int .i64 x.credit, .int .i64 x.amount] Hc.out _ Try.underlying56 rfl Entry.size ?_))
  refine (impl_BookEntry_any (some ad) n cap xs (turnE x m) _ HL.out hn HX2.out HF.out HT.out).mono ?_
  rintro r w3 ⟨A', n', c', rfl, hR, hb3⟩
  have hz1 := HB1.out.size
  have HR := Lib.hid (hR.more (show w.heap.size ≤ _ by simp; omega)); clear hR
  have HB3 := Lib.hid ((HB1.out.alloc hz1 _).trans (hb3.mono (by simp; omega)))
  clear hb3
  go_wp2
  go_ret2
  exact ⟨A', n', c', by rw [Q.out]; rfl, by rw [Q.out]; exact HR.out, HB3.out⟩

theorem add_len (xs : List Entry) (e : Entry) : (addP xs e).1.length ≤ xs.length + 1 := by
  unfold addP
  split
  · simp
  · split <;> simp
theorem book_len (xs : List Entry) (e : Entry) : (bookP xs e).1.length ≤ 151 := by
  unfold bookP
  split
  · rename_i h
    have := ledger_len h
    split
    · have := add_len xs e; omega
    · simp
  · simp
theorem bookEntry_small0 {n : Nat} (xs : List Entry) (_hs : n ≤ 1048576) (_hl : xs.length = n) (_hf : ∀ x ∈ xs, x.fits) (e : Entry) : (bookP xs e).1.length ≤ 1048576 := by
  have := book_len xs e; omega
theorem reverseEntry_small0 {n : Nat} (xs : List Entry) (_hs : n ≤ 1048576) (_hl : xs.length = n) (_hf : ∀ x ∈ xs, x.fits) (i m : Int) : (reverseP xs i m).1.length ≤ 1048576 := by
  unfold reverseP
  split
  · split
    · split
      · rename_i x _
        have := book_len xs (turnE x m); omega
      · simp
    · simp
  · simp

set_option maxRecDepth 100000 in
set_option maxHeartbeats 2000000 in
theorem spec_ReverseEntry_any (A : Option Addr) (n cap : Nat) (xs : List Entry) (i m : Int) (w : World) (hl : xs.length = n) (hn : n ≤ 1048576) (hX : Rd w w.heap.size A 4 (entryRows xs)) (hf : ∀ x ∈ xs, x.fits) (_hi : In64 i) (_hm : In64 m) :
    Calls Try.prog 31 #[.slice A n cap, .int .i64 i, .int .i64 m] w fun r w' => ∃ A' n' c', r = .returned (.tuple #[.slice A' n' c', .int .i64 (reverseP xs i m).2]) ∧ Res w.heap.size w' 56 4 A' n' c' (entryRows (reverseP xs i m).1) ∧ Below w.heap.size w w' := by
  have HX := Lib.hid hX; clear hX
  have HF := Lib.hid hf; clear hf
  have HL := Lib.hid hl; clear hl
  by_cases hg : ledgerB xs = true
  rotate_left
  · have q : reverseP xs i m = ([], 1) := by unfold reverseP; rw [if_neg hg]
    have Q := Lib.hid q; clear q
    have hg' : ledgerB xs = false := by simpa using hg
    clear hg
    go_enter Try.func31, Try.ntmps31
    go_wp2_with (first | (go_at_call 76; refine (spec_IsLedger_any A n cap xs _ HL.out hn HX.out HF.out).mono ?_; rintro e w1 ⟨rfl, hb1⟩))
    go_ret2
    exact ⟨none, 0, 0, by rw [Q.out]; rfl, by rw [Q.out]; exact Res.nil_, hb1⟩
  have HG := Lib.hid hg
  by_cases hr : inR i 0 ((n : Int) - 1) = true
  rotate_left
  · have q : reverseP xs i m = ([], 2) := by unfold reverseP; rw [if_pos HG.out, HL.out, if_neg hr]
    have Q := Lib.hid q; clear q
    have hr' : inR i 0 ((n : Int) - 1) = false := by simpa using hr
    clear hr
    go_enter Try.func31, Try.ntmps31
    go_wp2_with (first | (go_at_call 76; refine (spec_IsLedger_any A n cap xs _ HL.out hn HX.out HF.out).mono ?_; rintro e w1 ⟨rfl, hb1⟩) | (go_at_call 64; refine (spec_l01In_any _ _ _ _).mono ?_; rintro e w' ⟨rfl, rfl⟩))
    go_ret2
    exact ⟨none, 0, 0, by rw [Q.out]; rfl, by rw [Q.out]; exact Res.nil_, hb1⟩
  obtain ⟨h1, h2⟩ := inR_true.1 hr
  obtain ⟨k, rfl⟩ := Int.eq_ofNat_of_zero_le h1
  have hk : k < n := by omega
  obtain ⟨x, hx⟩ := get_of_lt (xs := xs) (k := k) (by rw [HL.out]; exact hk)
  have hv := turn_valid (m := m) (ledger_entry HG.out (List.mem_of_getElem? hx))
  have q : reverseP xs k m = if inR m 0 35999 = true then addP xs (turnE x m) else ([], 2) := by
    unfold reverseP; rw [if_pos HG.out, HL.out, if_pos hr]; simp [hx, bookP, HG.out, hv]
  have Q0 := Lib.hid q; clear q hv
  by_cases hmm : inR m 0 35999 = true
  rotate_left
  · have Q := Lib.hid (Q0.out.trans (if_neg hmm))
    have hm' : inR m 0 35999 = false := by simpa using hmm
    clear hmm
    go_enter Try.func31, Try.ntmps31
    go_wp2_with (first | (go_at_call 76; refine (spec_IsLedger_any A n cap xs _ HL.out hn HX.out HF.out).mono ?_; rintro e w1 ⟨rfl, hb1⟩) | (go_at_call 64; refine (spec_l01In_any _ _ _ _).mono ?_; rintro e w' ⟨rfl, rfl⟩) | (go_at_call 84; refine (spec_l02Month_any _ _).mono ?_; rintro e w' ⟨rfl, rfl⟩))
    go_ret2
    exact ⟨none, 0, 0, by rw [Q.out]; rfl, by rw [Q.out]; exact Res.nil_, hb1⟩
  have Q := Lib.hid (Q0.out.trans (if_pos hmm))
  have hlen : n ≤ 150 := by have := ledger_len HG.out; have := HL.out; omega
  go_enter Try.func31, Try.ntmps31
  go_wp2_with fail
  refine (spec_IsLedger_any A n cap xs _ HL.out hn HX.out HF.out).mono ?_
  rintro r w1 ⟨rfl, hb1⟩
  have HB1 := Lib.hid hb1
  have HX1 := Lib.hid (HX.out.past hb1)
  clear hb1
  obtain ⟨ad, rfl, had, _, hc⟩ := HX1.out.at' (entryRows_get hx)
  obtain ⟨c0, c1, c2, c3⟩ := Entry.cells hc
  clear hc hx
  have HS := Lib.hid (fun w' (h : Below w1.heap.size w1 w') => (show w'.cell? ⟨(ad.add (k * 4)).block, (ad.add (k * 4)).off + 1, none⟩ = some (.int .i64 x.debit) ∧ w'.cell? ⟨(ad.add (k * 4)).block, (ad.add (k * 4)).off + 2, none⟩ = some (.int .i64 x.credit) ∧ w'.cell? ⟨(ad.add (k * 4)).block, (ad.add (k * 4)).off + 3, none⟩ = some (.int .i64 x.amount) from
    ⟨(h.cell (block_lt_of_cell c1)).trans c1, (h.cell (block_lt_of_cell c2)).trans c2, (h.cell (block_lt_of_cell c3)).trans c3⟩))
  clear c0 c1 c2 c3
  go_wp2_with (first | (go_at_call 64; refine (spec_l01In_any _ _ _ _).mono ?_; rintro e w' ⟨rfl, rfl⟩) | (go_at_call 84; refine (spec_l02Month_any _ _).mono ?_; rintro e w' ⟨rfl, rfl⟩))
  go_region_held3 (fun w' => w'.cell? ⟨(ad.add (k * 4)).block, (ad.add (k * 4)).off + 1, none⟩ = some (.int .i64 x.debit) ∧ w'.cell? ⟨(ad.add (k * 4)).block, (ad.add (k * 4)).off + 2, none⟩ = some (.int .i64 x.credit) ∧ w'.cell? ⟨(ad.add (k * 4)).block, (ad.add (k * 4)).off + 3, none⟩ = some (.int .i64 x.amount)) (first | exact HS.out _ HB3.out | exact HS.out _ (Below.refl _ _).drew) (first | (go_at_call 86; refine (spec_l22Add_any (some ad) n cap xs (turnE x m) w1.drew HL.out hlen (Rd.drew HX1.out)).mono ?_; rintro r w3 ⟨A', n', c', rfl, hR, hb3⟩; have HR := Lib.hid hR; clear hR; have HB3 : Hid (Below w1.heap.size w1 w3) := Lib.hid (of_drew hb3)))
  all_goals (
    go_wp2
    go_ret2
    exact ⟨A', n', c', by rw [Q.out]; rfl, by rw [Q.out]; exact HR.out.more HB1.out.size, below_step HB1.out HB3.out⟩)

end Go.Proofs.Ytoabhnobgdjgkaa
