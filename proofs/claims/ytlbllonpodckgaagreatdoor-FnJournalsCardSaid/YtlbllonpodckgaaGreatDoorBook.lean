/- Booking an entry: the program's and the reference's contracts over one plain function each. -/
import Derived.Test.YtlbllonpodckgaaGreatDoorLedg
import Derived.Test.YtlbllonpodckgaaGreatDoorLedg2
import Derived.Test.YtlbllonpodckgaaGreatDoorBase2
namespace Go.Proofs.YtlbllonpodckgaaGreatDoor
open Go.RowKit Go.BigFrame

def lateB (xs : List Entry) (e : Entry) : Bool := decide (0 < xs.length) && decide (e.month < monthAt xs (xs.length - 1))
def addP (xs : List Entry) (e : Entry) : List Entry × Int :=
  if lateB xs e then ([], 5) else if xs.length = 150 then ([], 3) else (xs ++ [e], 0)
def bookP (xs : List Entry) (e : Entry) : List Entry × Int :=
  if ledgerB xs then (if entryB e then addP xs e else ([], 2)) else ([], 1)
theorem entryRows_snoc (xs : List Entry) (e : Entry) : entryRows (xs ++ [e]) = entryRows xs ++ [e.row] := by simp [entryRows]
theorem Entry.parts : ∃ i, Tryz.prog.info? 78 = some i ∧ i.zero = some (.agg #[.int .i64 0, .int .i64 0, .int .i64 0, .int .i64 0]) ∧ i.size = 4 ∧ i.bytes = 32 := info_parts Entry.info

set_option maxRecDepth 100000 in
set_option maxHeartbeats 1000000 in
theorem cloneEntries_any (A : Option Addr) (n cap : Nat) (xs : List Entry) (w : World) (hl : xs.length = n) (hn : n ≤ 1048576) (hX : Rd w w.heap.size A 4 (entryRows xs)) :
    Calls Tryz.prog 130 #[.slice A n cap] w fun e w' => ∃ A' c', e = .returned (.slice A' n c') ∧ Res w.heap.size w' 78 4 A' n c' (entryRows xs) ∧ Below w.heap.size w w' := by
  obtain ⟨i0, hi0, hz0, hz1, hz2⟩ := Entry.parts
  have HX := Lib.hid hX; clear hX
  have HL := Lib.hid hl; clear hl
  have HI := Lib.hid hi0; clear hi0
  rcases A with _ | ad
  · have hx0 : xs = [] := by
      rcases HX.out with h | ⟨ad, e, _⟩
      · simpa [entryRows] using h
      · cases e
    subst hx0
    have hn0 : n = 0 := HL.out.symm
    subst hn0
    have heq := fun W => Go.Lib.run_eql_slice_nil (P := Tryz.prog) W 22 78 none 0 cap 0 0 Tryz.underlying22
    go_enter Tryz.func130, Tryz.ntmps130
    go_wp2
    go_ret
    exact ⟨none, 0, rfl, Res.nil_, Below.refl _ _⟩
  · have heq := fun W => Go.Lib.run_eql_slice_nil (P := Tryz.prog) W 22 78 (some ad) n cap 0 0 Tryz.underlying22
    go_enter Tryz.func130, Tryz.ntmps130
    have hb1 : Below w.heap.size w (w.alloc (.cells #[] 78)) := (Below.refl _ _).alloc (Nat.le_refl _) _
    have HR0 := Lib.hid (Res.zero w w.heap.size 78 4 (Nat.le_refl _))
    have HX1 := Lib.hid (HX.out.past hb1)
    go_wp2_with (first | (refine wpList_append_res _ rfl _ _ 22 rfl w.heap.size 78 i0 _ 4 32 Tryz.underlying22 HI.out hz0 hz1 hz2 rfl (by omega) _ 0 0 [] rfl HR0.out _ _ n cap (entryRows xs) rfl (fun h => by cases h) HX1.out (by rw [entryRows_length, HL.out]) (entryRows_all xs) (by
      intro r hr u hu; obtain ⟨x, _, rfl⟩ := List.mem_map.1 hr; exact x.oneCell u hu) (by omega) (by omega) (by simp) ?_))
    intro A' c' w2 hR hb2
    have HR := Lib.hid hR; clear hR
    go_wp2
    go_ret
    exact ⟨A', c', rfl, by simpa using HR.out, hb1.trans (hb2.mono (by simp))⟩

theorem book_box {w : World} {e : Entry} {t : TypeId} : ∀ w', Below (w.heap.size + 1) (w.alloc (.cells e.row.toArray t)) w' →
    w'.cell? ⟨w.heap.size, 0, none⟩ = some (.int .i64 e.month) ∧ w'.cell? ⟨w.heap.size, 1, none⟩ = some (.int .i64 e.debit) ∧ w'.cell? ⟨w.heap.size, 2, none⟩ = some (.int .i64 e.credit) ∧ w'.cell? ⟨w.heap.size, 3, none⟩ = some (.int .i64 e.amount) := by
  intro w' h
  refine ⟨?_, ?_, ?_, ?_⟩ <;> (rw [h.cell (by simp)]; simp only [Entry.row]; go_simp)
theorem rowsOne {xs : List Entry} : ∀ r ∈ entryRows xs, ∀ u ∈ r, u.oneCell' = true := by
  intro r hr u hu; obtain ⟨x, _, rfl⟩ := List.mem_map.1 hr; exact x.oneCell u hu

set_option maxRecDepth 100000 in
set_option maxHeartbeats 4000000 in
theorem impl_BookEntry_any (A : Option Addr) (n cap : Nat) (xs : List Entry) (e : Entry) (w : World) (hl : xs.length = n) (hn : n ≤ 1048576) (hX : Rd w w.heap.size A 4 (entryRows xs)) (hf : ∀ x ∈ xs, x.fits) (_he : e.fits) :
    Calls Tryz.prog 64 #[.slice A n cap, .agg e.row.toArray] w fun r w' => ∃ A' n' c', r = .returned (.tuple #[.slice A' n' c', .int .i64 (bookP xs e).2]) ∧ Res w.heap.size w' 78 4 A' n' c' (entryRows (bookP xs e).1) ∧ Below w.heap.size w w' := by
  obtain ⟨i0, hi0, hz0, hz1, hz2⟩ := Entry.parts
  have HI := Lib.hid (And.intro hi0 (And.intro hz0 (And.intro hz1 hz2))); clear hi0 hz0 hz1 hz2
  have hw0 : Below w.heap.size w (w.alloc (.cells e.row.toArray 78)) := (Below.refl _ _).alloc (Nat.le_refl _) _
  have HX := Lib.hid (hX.past hw0); clear hX
  have HF := Lib.hid hf; clear hf
  have HL := Lib.hid hl; clear hl
  have HS := Lib.hid (book_box (w := w) (e := e) (t := 78))
  by_cases hg : ledgerB xs = true
  rotate_left
  · have q : bookP xs e = ([], 1) := by unfold bookP; rw [if_neg hg]
    have Q := Lib.hid q; clear q
    have hg' : ledgerB xs = false := by simpa using hg
    clear hg
    go_enter Tryz.func64, Tryz.ntmps64
    go_wp2_with (first | (go_at_call 70; refine (impl_IsLedger_any A n cap xs _ HL.out hn HX.out HF.out).mono ?_; rintro e w1 ⟨rfl, hb1⟩))
    go_ret2
    exact ⟨none, 0, 0, by rw [Q.out]; rfl, by rw [Q.out]; exact Res.nil_, hw0.trans (hb1.mono (by simp))⟩
  have HG := Lib.hid hg
  go_enter Tryz.func64, Tryz.ntmps64
  go_wp2_with fail
  refine (impl_IsLedger_any A n cap xs _ HL.out hn HX.out HF.out).mono ?_
  rintro r w1 ⟨rfl, hb1⟩
  have HB1 := Lib.hid (hb1.mono (show w.heap.size + 1 ≤ _ by simp))
  have HX1 := Lib.hid (HX.out.past hb1)
  clear hb1
  obtain ⟨c0, c1, c2, c3⟩ := HS.out w1 HB1.out
  by_cases he : entryB e = true
  rotate_left
  · have q : bookP xs e = ([], 2) := by unfold bookP; rw [if_pos HG.out, if_neg he]
    have Q := Lib.hid q; clear q
    have he' : entryB e = false := by simpa using he
    clear he
    go_wp2_with (first | (go_at_call 129; refine (impl_isEntry_any e _).mono ?_; rintro e w2 ⟨rfl, hb2⟩))
    go_ret2
    exact ⟨none, 0, 0, by rw [Q.out]; rfl, by rw [Q.out]; exact Res.nil_, hw0.trans ((HB1.out.trans (hb2.mono (by have := HB1.out.size; simp at this; omega))).mono (by omega))⟩
  have q : bookP xs e = addP xs e := by unfold bookP; rw [if_pos HG.out, if_pos he]
  have Q := Lib.hid q; clear q
  go_wp2_with fail
  refine (impl_isEntry_any e _).mono ?_
  rintro r w2 ⟨rfl, hb2⟩
  have HB2 := Lib.hid (HB1.out.trans (hb2.mono (by have := HB1.out.size; simp at this; omega)))
  have HX2 := Lib.hid (HX1.out.past hb2)
  clear hb2 c0 c1 c2 c3
  have hlen : n ≤ 150 := by have := ledger_len HG.out; have := HL.out; omega

  obtain ⟨c0, c1, c2, c3⟩ := HS.out w2 HB2.out
  have d0 := fun y : Past w2 => Past.cell c0 y
  clear c0 c1 c2 c3
  by_cases h0 : n = 0
  · subst h0
    have hlate : lateB xs e = false := by unfold lateB; rw [HL.out]; rfl
    have HLt := Lib.hid hlate; clear hlate
    have q2 : bookP xs e = (xs ++ [e], 0) := by rw [Q.out]; unfold addP; rw [HLt.out, if_neg (by simp), if_neg (by rw [HL.out]; omega)]
    have Q2 := Lib.hid q2; clear q2
    go_wp2
    refine wp_region_past (by kernel_rfl) (by kernel_rfl) ?_
    repeat (go_big_quiet_step (fail))
    refine wpQuiet_nil ?_
    rintro _ ⟨y, rfl⟩
    have HB3 := Lib.hid (HB2.out.trans (y.2.mono (by have := HB2.out.size; simp at this; omega)))
    have HX3 := Lib.hid (HX2.out.past y.2)
    clear d0
    go_wp2
    have hsz3 := HB3.out.size; simp at hsz3
    have HD := Lib.hid (HB3.out.drew)
    have HDa := Lib.hid (HB3.out.drew.alloc (show w.heap.size + 1 ≤ y.1.drew.heap.size from hsz3) (.cells #[.int .i64 e.month, .int .i64 e.debit, .int .i64 e.credit, .int .i64 e.amount] 78))
    have HXd := Lib.hid (HX3.out.drew)
    have HXa := Lib.hid ((HX3.out.drew).past ((Below.refl y.1.drew.heap.size y.1.drew).alloc (Nat.le_refl _) (.cells #[.int .i64 e.month, .int .i64 e.debit, .int .i64 e.credit, .int .i64 e.amount] 78)))
    obtain ⟨hi0, hz0, hz1, hz2⟩ := HI.out
    have HI2 := Lib.hid (And.intro hi0 (And.intro hz0 (And.intro hz1 hz2))); clear hi0 hz0 hz1 hz2
    go_region_held3 (fun w' => w'.cell? ⟨w.heap.size, 0, none⟩ = some (.int .i64 e.month) ∧ w'.cell? ⟨w.heap.size, 1, none⟩ = some (.int .i64 e.debit) ∧ w'.cell? ⟨w.heap.size, 2, none⟩ = some (.int .i64 e.credit) ∧ w'.cell? ⟨w.heap.size, 3, none⟩ = some (.int .i64 e.amount)) (first | exact HS.out _ HB5.out | exact HS.out _ (HB4.out.alloc hz4 _) | exact HS.out _ HB4.out | exact HS.out _ HDa.out | exact HS.out _ HD.out) (first | (go_at_call 130; refine (cloneEntries_any A 0 cap xs _ HL.out hn (by first | exact HXd.out | exact HXa.out)).mono ?_; rintro r w4 ⟨A1, k1, rfl, hR1, hb4⟩; have HB4 : Hid (Below (w.heap.size + 1) (w.alloc (.cells e.row.toArray 78)) w4) := Lib.hid (by first | exact HD.out.trans (hb4.mono hsz3) | exact HDa.out.trans (hb4.mono (by simp; omega))); have hz4 : w.heap.size + 1 ≤ w4.heap.size := (by have := HB4.out.size; simp at this; omega); have HR1 := Lib.hid (hR1.more (show w.heap.size + 1 ≤ _ by first | exact hsz3 | (simp; omega))); clear hR1) | (refine step_append_res rfl (.tmp 35) (.tmp 37) 22 rfl (w.heap.size + 1) 78 i0 _ 4 32 Tryz.underlying22 HI2.out.1 HI2.out.2.1 HI2.out.2.2.1 HI2.out.2.2.2 rfl (by omega) A1 0 k1 (entryRows xs) rfl (by first | exact HR1.out | exact HR1.out.past ((Below.refl _ w4).alloc (Nat.le_refl _) _)) _ _ 1 1 [e.row] rfl (fun h => by cases h) (by first | exact Rd.new1 w4 _ e.row | exact ((Rd.new1 y.1.drew _ e.row).more (by simp)).past hb4) rfl (by simp [Entry.row]) (by simpa using e.oneCell) (by omega) (by omega) (by first | exact hz4 | (simp; omega)) ?_; intro A5 k5 w5 hR5 hb5; have HR5 := Lib.hid hR5; clear hR5; have HB5 : Hid (Below (w.heap.size + 1) (w.alloc (.cells e.row.toArray 78)) w5) := Lib.hid (by first | exact HB4.out.trans hb5 | exact (HB4.out.alloc hz4 _).trans hb5)))
    all_goals (
      go_wp2
      go_ret2
      exact ⟨A5, 0 + 1, k5, by rw [Q2.out]; rfl, by rw [Q2.out, entryRows_snoc]; exact HR5.out.more (by omega), hw0.trans (HB5.out.mono (by omega))⟩)
  have hpos : 0 < n := by omega
  have hd : decide (0 < n) = true := by simp; omega
  obtain ⟨x, hx⟩ := get_of_lt (xs := xs) (k := n - 1) (by rw [HL.out]; omega)
  obtain ⟨ad, rfl, had, _, hcx⟩ := HX2.out.at' (entryRows_get hx)
  have c0 : w2.cell? (ad.add ((n - 1) * 4)) = some (.int .i64 x.month) := (Entry.cells hcx).1
  have d1 := fun y : Past w2 => Past.cell c0 y
  have Hm := Lib.hid (monthAt_of hx)
  clear hcx c0 hx
  by_cases hlt : e.month < x.month
  · have q2 : bookP xs e = ([], 5) := by
      rw [Q.out]; unfold addP lateB
      rw [HL.out, Hm.out, hd, if_pos (by simpa using hlt)]
    have Q2 := Lib.hid q2; clear q2
    go_wp2
    refine wp_region_past (by kernel_rfl) (by kernel_rfl) ?_
    repeat (go_big_quiet_step (fail))
    refine wpQuiet_nil ?_
    rintro _ ⟨y, rfl⟩
    have HB3 := Lib.hid (HB2.out.trans (y.2.mono (by have := HB2.out.size; simp at this; omega)))
    clear d0 d1
    go_wp2
    go_ret2
    exact ⟨none, 0, 0, by rw [Q2.out]; rfl, by rw [Q2.out]; exact Res.nil_, hw0.trans (HB3.out.mono (by omega))⟩
  have hlate : lateB xs e = false := by unfold lateB; rw [HL.out, Hm.out, hd]; simpa using hlt
  have HLt := Lib.hid hlate; clear hlate
  by_cases hfull : n = 150
  · have q2 : bookP xs e = ([], 3) := by rw [Q.out]; unfold addP; rw [HLt.out, if_neg (by simp), if_pos (by rw [HL.out]; exact hfull)]
    have Q2 := Lib.hid q2; clear q2
    have t150 : ((n : Int) == 150) = true := by simp [hfull]
    have HFull := Lib.hid hfull; clear hfull
    go_wp2
    refine wp_region_past (by kernel_rfl) (by kernel_rfl) ?_
    repeat (go_big_quiet_step (fail))
    refine wpQuiet_nil ?_
    rintro _ ⟨y, rfl⟩
    have HB3 := Lib.hid (HB2.out.trans (y.2.mono (by have := HB2.out.size; simp at this; omega)))
    clear d0 d1
    go_wp2
    go_ret2
    exact ⟨none, 0, 0, by rw [Q2.out]; rfl, by rw [Q2.out]; exact Res.nil_, hw0.trans (HB3.out.mono (by omega))⟩
  have q2 : bookP xs e = (xs ++ [e], 0) := by rw [Q.out]; unfold addP; rw [HLt.out, if_neg (by simp), if_neg (by rw [HL.out]; exact hfull)]
  have Q2 := Lib.hid q2; clear q2
  have t150 : ((n : Int) == 150) = false := by simp; omega
  go_wp2
  refine wp_region_past (by kernel_rfl) (by kernel_rfl) ?_
  repeat (go_big_quiet_step (fail))
  refine wpQuiet_nil ?_
  rintro _ ⟨y, rfl⟩
  have HB3 := Lib.hid (HB2.out.trans (y.2.mono (by have := HB2.out.size; simp at this; omega)))
  have HX3 := Lib.hid (HX2.out.past y.2)
  clear d0 d1
  go_wp2
  have hsz3 := HB3.out.size; simp at hsz3
  have HD := Lib.hid (HB3.out.drew)
  have HDa := Lib.hid (HB3.out.drew.alloc (show w.heap.size + 1 ≤ y.1.drew.heap.size from hsz3) (.cells #[.int .i64 e.month, .int .i64 e.debit, .int .i64 e.credit, .int .i64 e.amount] 78))
  have HXd := Lib.hid (HX3.out.drew)
  have HXa := Lib.hid ((HX3.out.drew).past ((Below.refl y.1.drew.heap.size y.1.drew).alloc (Nat.le_refl _) (.cells #[.int .i64 e.month, .int .i64 e.debit, .int .i64 e.credit, .int .i64 e.amount] 78)))
  obtain ⟨hi0, hz0, hz1, hz2⟩ := HI.out
  have HI2 := Lib.hid (And.intro hi0 (And.intro hz0 (And.intro hz1 hz2))); clear hi0 hz0 hz1 hz2
  go_region_held3 (fun w' => w'.cell? ⟨w.heap.size, 0, none⟩ = some (.int .i64 e.month) ∧ w'.cell? ⟨w.heap.size, 1, none⟩ = some (.int .i64 e.debit) ∧ w'.cell? ⟨w.heap.size, 2, none⟩ = some (.int .i64 e.credit) ∧ w'.cell? ⟨w.heap.size, 3, none⟩ = some (.int .i64 e.amount)) (first | exact HS.out _ HB5.out | exact HS.out _ (HB4.out.alloc hz4 _) | exact HS.out _ HB4.out | exact HS.out _ HDa.out | exact HS.out _ HD.out) (first | (go_at_call 130; refine (cloneEntries_any (some ad) n cap xs _ HL.out hn (by first | exact HXd.out | exact HXa.out)).mono ?_; rintro r w4 ⟨A1, k1, rfl, hR1, hb4⟩; have HB4 : Hid (Below (w.heap.size + 1) (w.alloc (.cells e.row.toArray 78)) w4) := Lib.hid (by first | exact HD.out.trans (hb4.mono hsz3) | exact HDa.out.trans (hb4.mono (by simp; omega))); have hz4 : w.heap.size + 1 ≤ w4.heap.size := (by have := HB4.out.size; simp at this; omega); have HR1 := Lib.hid (hR1.more (show w.heap.size + 1 ≤ _ by first | exact hsz3 | (simp; omega))); clear hR1) | (refine step_append_res rfl (.tmp 35) (.tmp 37) 22 rfl (w.heap.size + 1) 78 i0 _ 4 32 Tryz.underlying22 HI2.out.1 HI2.out.2.1 HI2.out.2.2.1 HI2.out.2.2.2 rfl (by omega) A1 n k1 (entryRows xs) rfl (by first | exact HR1.out | exact HR1.out.past ((Below.refl _ w4).alloc (Nat.le_refl _) _)) _ _ 1 1 [e.row] rfl (fun h => by cases h) (by first | exact Rd.new1 w4 _ e.row | exact ((Rd.new1 y.1.drew _ e.row).more (by simp)).past hb4) rfl (by simp [Entry.row]) (by simpa using e.oneCell) (by omega) (by omega) (by first | exact hz4 | (simp; omega)) ?_; intro A5 k5 w5 hR5 hb5; have HR5 := Lib.hid hR5; clear hR5; have HB5 : Hid (Below (w.heap.size + 1) (w.alloc (.cells e.row.toArray 78)) w5) := Lib.hid (by first | exact HB4.out.trans hb5 | exact (HB4.out.alloc hz4 _).trans hb5)))
  all_goals (
    go_wp2
    go_ret2
    exact ⟨A5, n + 1, k5, by rw [Q2.out]; rfl, by rw [Q2.out, entryRows_snoc]; exact HR5.out.more (by omega), hw0.trans (HB5.out.mono (by omega))⟩)
end Go.Proofs.YtlbllonpodckgaaGreatDoor
