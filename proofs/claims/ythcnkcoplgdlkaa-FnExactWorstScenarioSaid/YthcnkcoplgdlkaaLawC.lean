/- Bases and life tables among a law's arguments or results: how they lie, how they are opened, marked and held. No condition. -/
import Derived.Test.YthcnkcoplgdlkaaLawB
namespace Go.Proofs.Ythcnkcoplgdlkaa
open Go.ChangeShapes Go.WideShapes Go.ChangeAt Go.RowKit Go.Deep

theorem LawBas.size : (Try.prog.info? 26).map (·.size) = some 3 := by kernel_rfl
theorem basT_of {w : World} {B g n : Nat} {b : Bas} (h : Res B w 2 1 (some ⟨g, 0, none⟩) n n (intRows b.lives)) (T : b.lives.length = n ∧ n ≤ 1048576 ∧ (∀ x ∈ b.lives, In64 x) ∧ In64 b.first ∧ In64 b.rate) : BasT w (some ⟨g, 0, none⟩) n n b :=
  ⟨⟨T.1, T.2.1, h.rd, T.2.2.1⟩, Nat.le_refl _, T.2.2.2.1, T.2.2.2.2⟩
theorem Res.cap_le {w : World} {B t sz n cap : Nat} {A : Option Addr} {rows : List (List Value)} (h : Res B w t sz A n cap rows) : n ≤ cap := by
  rcases h.own.2 with ⟨h1, h2⟩ | ⟨g, c, cur, e, _, _, hnc, _⟩
  · simp only [Value.slice.injEq] at h1; omega
  · simp only [Value.slice.injEq] at e; omega
theorem basT_res {w : World} {B n c : Nat} {A : Option Addr} {b : Bas} (h : Res B w 2 1 A n c (intRows b.lives)) (T : b.lives.length ≤ 1048576 ∧ (∀ x ∈ b.lives, In64 x) ∧ In64 b.first ∧ In64 b.rate) : BasT w A n c b := by
  have hl : b.lives.length = n := by have := h.len; rwa [intRows_length] at this
  exact ⟨⟨hl, by omega, h.rd, T.2.1⟩, h.cap_le, T.2.2.1, T.2.2.2⟩
theorem Turned.blk {w w' : World} {A : Option Addr} {n g t : Nat} {cs : Array Value} (h : Turned w w' A n) (hb : Blk w g t cs) (hne : ∀ k, A = some ⟨k, 0, none⟩ → g ≠ k) : Blk w' g t cs := by
  rcases h with h | ⟨_, k, e, hg⟩
  · subst h; exact hb
  · exact hb.grown hg (fun h => by injection h with h; exact hne k e h)
section
variable {H : Type} {enc : TypeId × Value → H} {w : World} {base : Nat} {spare : Nat → Bool} {held : Bool}
set_option maxRecDepth 100000 in
theorem open_ltable {r : Reach} {b0 : Nat} {v : Value} {d : DataW H} {p : List MemPlace} (hv : Value.okWide Try.prog w r b0 24 v) (h : DataW.Trod enc Try.prog w base spare held 24 v d p) :
    ∃ (f : Int) (A : Option Addr) (n cap : Nat) (xs : List Int), v = .agg #[.int .i64 f, .slice A n cap] ∧ n ≤ maxLen ∧ xs.length = n ∧ Rd w w.heap.size A 1 (intRows xs) ∧ (∀ x ∈ xs, In64 x) ∧ In64 f := by
  obtain ⟨cs, rfl, _⟩ := okWide_struct Try.underlying24 hv
  obtain ⟨fuel, h⟩ := h
  obtain ⟨cs⟩ := cs
  simp only [Value.cells] at h
  obtain ⟨f, A, n, cap, xs, hs, hn, hl, hR, hx, hf⟩ := open_table h
  subst hs
  exact ⟨f, A, n, cap, xs, rfl, hn, hl, hR, hx, hf⟩
end

theorem markLifeTable_at (B : Nat) (first : Int) (A : Option Addr) (n cap k0 : Nat) (k : Int) (rows : List (List Value)) (w : World) (hn : n ≤ 1048576) (hk0 : k0 ≤ 1000000000) (hR : Res B w 2 1 A n cap rows) (hk : k = (k0 : Int)) :
    Calls Try.prog 89 #[.agg #[.int .i64 first, .slice A n cap], .int .i64 k] w fun e' w' => e' = .returned (.int .i64 (k + n)) ∧ (∃ u, Below w.heap.size w u ∧ Turned u w' A n) ∧ Marked w' A n 1 k0 := by
  have hbw : Below w.heap.size w (w.alloc (.cells #[.int .i64 first, .slice A n cap] 30)) := (Below.refl _ w).alloc (Nat.le_refl _) _
  have HR := Lib.hid (hR.past hbw); clear hR
  have HK := Lib.hid hk; clear hk
  go_enter Try.func89, Try.ntmps89
  go_wp2_with fail
  refine (markInt64S_at B A n cap k0 k rows _ hn hk0 HR.out HK.out).mono ?_
  rintro e w1 ⟨rfl, ht, hM⟩
  have HM := Lib.hid hM; clear hM
  have HT := Lib.hid ht; clear ht
  go_wp2
  go_ret
  exact ⟨rfl, ⟨_, hbw, HT.out⟩, HM.out⟩
theorem heldLifeTable_at (first : Int) (A : Option Addr) (n cap k0 : Nat) (k : Int) (w : World) (hn : n ≤ 1048576) (hk0 : k0 ≤ 1000000000) (hM : Marked w A n 1 k0) (hk : k = (k0 : Int)) :
    Calls Try.prog 90 #[.agg #[.int .i64 first, .slice A n cap], .int .i64 k] w fun e' w' => e' = .returned (.int .i64 (k + n)) ∧ Below w.heap.size w w' := by
  have hbw : Below w.heap.size w (w.alloc (.cells #[.int .i64 first, .slice A n cap] 30)) := (Below.refl _ w).alloc (Nat.le_refl _) _
  have HM := Lib.hid (hM.past hbw); clear hM
  have h2 : ¬ (k + (n : Int) < 0) := by omega
  have HK := Lib.hid hk; clear hk
  go_enter Try.func90, Try.ntmps90
  go_wp2_with fail
  refine (heldInt64S_at A n cap k0 k _ hn hk0 HM.out HK.out).mono ?_
  rintro e w1 ⟨rfl, rfl⟩
  go_wp2
  go_ret
  exact ⟨rfl, hbw⟩
theorem markBasis_at (B : Nat) (first rate : Int) (A : Option Addr) (n cap k0 : Nat) (k : Int) (rows : List (List Value)) (w : World) (hn : n ≤ 1048576) (hk0 : k0 ≤ 1000000000) (hR : Res B w 2 1 A n cap rows) (hk : k = (k0 : Int)) :
    Calls Try.prog 18 #[.agg #[.int .i64 first, .slice A n cap, .int .i64 rate], .int .i64 k] w fun e' w' => e' = .returned (.int .i64 (k + n)) ∧ (∃ u, Below w.heap.size w u ∧ Turned u w' A n) ∧ Marked w' A n 1 k0 := by
  have hbw : Below w.heap.size w (w.alloc (.cells #[.int .i64 first, .slice A n cap, .int .i64 rate] 32)) := (Below.refl _ w).alloc (Nat.le_refl _) _
  have HB := Lib.hid (Blk.new w 32 #[.int .i64 first, .slice A n cap, .int .i64 rate])
  have hcT := Lib.hid (Blk.agg (cs := [.int .i64 first, .slice A n cap, .int .i64 rate]) HB.out 0 [.int .i64 first, .slice A n cap] rfl)
  have HR := Lib.hid (hR.past hbw); clear hR
  have HK := Lib.hid hk; clear hk
  go_enter Try.func18, Try.ntmps18
  go_wp2_with (refine wpList_load_agg rfl 30 _ rfl ⟨w.heap.size, 0, none⟩ rfl [.int .i64 first, .slice A n cap] hcT.out _ Try.underlying30 rfl Tab.size ?_)
  refine (markLifeTable_at B first A n cap k0 k rows _ hn hk0 HR.out HK.out).mono ?_
  rintro e w1 ⟨rfl, ⟨u, hu, ht⟩, hM⟩
  have HM := Lib.hid hM; clear hM
  have HT := Lib.hid ht; clear ht
  go_wp2
  go_ret
  exact ⟨rfl, ⟨u, hbw.trans (hu.mono hbw.size), HT.out⟩, HM.out⟩
theorem heldBasis_at (first rate : Int) (A : Option Addr) (n cap k0 : Nat) (k : Int) (w : World) (hn : n ≤ 1048576) (hk0 : k0 ≤ 1000000000) (hM : Marked w A n 1 k0) (hk : k = (k0 : Int)) :
    Calls Try.prog 19 #[.agg #[.int .i64 first, .slice A n cap, .int .i64 rate], .int .i64 k] w fun e' w' => e' = .returned (.int .i64 (k + n)) ∧ Below w.heap.size w w' := by
  have hbw : Below w.heap.size w (w.alloc (.cells #[.int .i64 first, .slice A n cap, .int .i64 rate] 32)) := (Below.refl _ w).alloc (Nat.le_refl _) _
  have HB := Lib.hid (Blk.new w 32 #[.int .i64 first, .slice A n cap, .int .i64 rate])
  have hcT := Lib.hid (Blk.agg (cs := [.int .i64 first, .slice A n cap, .int .i64 rate]) HB.out 0 [.int .i64 first, .slice A n cap] rfl)
  have HM := Lib.hid (hM.past hbw); clear hM
  have h2 : ¬ (k + (n : Int) < 0) := by omega
  have HK := Lib.hid hk; clear hk
  go_enter Try.func19, Try.ntmps19
  go_wp2_with (refine wpList_load_agg rfl 30 _ rfl ⟨w.heap.size, 0, none⟩ rfl [.int .i64 first, .slice A n cap] hcT.out _ Try.underlying30 rfl Tab.size ?_)
  refine (heldLifeTable_at first A n cap k0 k _ hn hk0 HM.out HK.out).mono ?_
  rintro e w1 ⟨rfl, hb1⟩
  go_wp2
  go_ret
  exact ⟨rfl, hbw.trans (hb1.mono hbw.size)⟩
end Go.Proofs.Ythcnkcoplgdlkaa
