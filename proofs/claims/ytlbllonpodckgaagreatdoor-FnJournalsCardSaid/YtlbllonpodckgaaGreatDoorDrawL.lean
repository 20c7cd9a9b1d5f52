/- Draws of ledgers: whatever is drawn, it is a list of entries of its own, and nothing but the source turns. -/
import Derived.Test.YtlbllonpodckgaaGreatDoorDrawA
import Derived.Test.YtlbllonpodckgaaGreatDoorStEntry
namespace Go.Proofs.YtlbllonpodckgaaGreatDoor
open Go.RowKit Go.BigFrame

/-- an own list of entries -/
def EntriesBy (B : Nat) (w : World) (A : Option Addr) (n c : Nat) : Prop := ∃ xs : List Entry, Res B w 78 4 A n c (entryRows xs) ∧ ∀ x ∈ xs, x.fits
theorem entries_snoc (xs : List Entry) (a b c d : Int) : entryRows xs ++ [[.int .i64 a, .int .i64 b, .int .i64 c, .int .i64 d]] = entryRows (xs ++ [⟨a, b, c, d⟩]) := by simp [entryRows, Entry.row]
theorem fits_snoc {xs : List Entry} {a b c d : Int} (h : ∀ x ∈ xs, x.fits) (ha : In64 a) (hb : In64 b) (hc : In64 c) (hd : In64 d) : ∀ x ∈ xs ++ [(⟨a, b, c, d⟩ : Entry)], x.fits := by
  intro x hx
  rcases List.mem_append.1 hx with h' | h'
  · exact h x h'
  · simp only [List.mem_singleton] at h'; rw [h']; exact ⟨ha, hb, hc, hd⟩
theorem in64_of {x : Int} (h : -1000000000000000 ≤ x ∧ x ≤ 1000000000000000) : In64 x := by unfold In64; omega

set_option maxHeartbeats 4000000 in
theorem spec_l22Draw_any (K : Code) (hK : K.Ok) (g : Nat) (w0 : World) (w : World) (hT : Nx K g w0 w) :
    Calls Tryz.prog 68 #[.pointer (some ⟨g, 0, none⟩)] w fun e w' => ∃ (A' : Option Addr) (n' c' : Nat), e = .returned (.slice A' n' c') ∧ EntriesBy w0.heap.size w' A' n' c' ∧ n' ≤ 200 ∧ Nx K g w0 w' := by
  obtain ⟨i0, hi0, hz0, hz1, hz2⟩ := info_parts Entry.info
  have HI := Lib.hid (And.intro hi0 (And.intro hz0 (And.intro hz1 hz2))); clear hi0 hz0 hz1 hz2
  have HT0 := Lib.hid hT
  have hO := Nx.refl hT.src
  have hgw := hT.src.lt
  have hgB : g < w.heap.size := hgw
  clear hT
  have HR0 := Lib.hid (Res.zero_at (w := w) (B := w.heap.size) (t := 78) (sz := 4) (g := w.heap.size) (by simp) (by simp))
  go_enter Tryz.func68, Tryz.ntmps68
  go_wp2_with fail
  have hO := hO.alloc (.cells #[] 78)
  have hT := Nx.refl hO.src
  have HR := HR0
  go_wp2_with (first | (go_at_call 74; refine (spec_l01Next_any K hK g _ _ _ (Nx.refl (Nx.src (by first | exact hT | exact hT.alloc _ | exact (hT.alloc _).alloc _ | exact hT.drew)))).mono ?_; rintro e w3 ⟨x, rfl, ⟨hx0, hx1⟩, hN⟩; have hT := Nx.trans (by first | exact hT | exact hT.alloc _ | exact (hT.alloc _).alloc _ | exact hT.drew) hN) | (go_at_call 79; refine (spec_l01Pick_new K hK g _ _ _ _ (by first | exact hT | exact hT.alloc _ | exact (hT.alloc _).alloc _ | exact hT.drew) (by rfl) (by decide) (by decide) (by rfl)).mono ?_; rintro e w3 ⟨x, rfl, hx, hT⟩; simp only [OneOf, Value.int.injEq, true_and, or_false] at hx))
  have HR := Lib.hid (HR.out.nx hT hgB)
  have hO := hO.trans hT
  clear hT hN
  go_loopw [3, 4, 5] (fun o r i wr => ∃ (k : Nat) (A' : Option Addr) (c' : Nat) (xs : List Entry) (m mo : Int), i = .int .i64 m ∧ r = .int .i64 mo ∧ o = .slice A' k c' ∧ (0 ≤ m ∧ (k : Int) + m ≤ 10) ∧ (22000 ≤ mo ∧ mo ≤ 22050 + 2 * (k : Int)) ∧ Hid (Res w.heap.size wr 78 4 A' k c' (entryRows xs)) ∧ Hid (∀ x ∈ xs, x.fits) ∧ Nx K g w wr) (fun _ _ i _ => (intOf i).toNat)
  case atStart => exact ⟨0, _, _, [], _, _, rfl, rfl, rfl, by omega, by omega, HR, Lib.hid (by simp), hO⟩
  case round =>
    obtain ⟨k, A', c', xs, m, mo, rfl, rfl, rfl, ⟨m0, m1⟩, ⟨r0, r1⟩, HR, HX, hO⟩ := hrel
    have hT := Nx.refl hO.src
    by_cases hm : 0 < m
    · go_wp2_with (first | (go_at_call 74; refine (spec_l01Next_any K hK g _ _ _ (Nx.refl (Nx.src (by first | exact hT | exact hT.alloc _ | exact (hT.alloc _).alloc _ | exact hT.drew)))).mono ?_; rintro e w3 ⟨x, rfl, ⟨hx0, hx1⟩, hN⟩; have hT := Nx.trans (by first | exact hT | exact hT.alloc _ | exact (hT.alloc _).alloc _ | exact hT.drew) hN) | (go_at_call 79; refine (spec_l01Pick_new K hK g _ _ _ _ (by first | exact hT | exact hT.alloc _ | exact (hT.alloc _).alloc _ | exact hT.drew) (by rfl) (by decide) (by decide) (by rfl)).mono ?_; rintro e w3 ⟨x, rfl, hx, hT⟩; simp only [OneOf, Value.int.injEq, true_and, or_false] at hx) | (at_builtin; refine wpList_append_row_at _ rfl _ _ _ rfl (w.heap.size) 78 i0 _ 4 32 Tryz.underlying22 HI.out.1 HI.out.2.1 HI.out.2.2.1 HI.out.2.2.2 rfl (by decide) (by decide) _ _ _ _ rfl (HR.out.nx hT hgB) [.int .i64 _, .int .i64 _, .int .i64 _, .int .i64 _] _ rfl rfl (by simp [Value.oneCell']) (by omega) (Nat.le_trans hO.size hT.size) ?_; intro A2 c2 w5 hR5 hb5 _ _; have hO := (hO.trans hT).kept hgw (Nat.le_refl _) hb5; have hT := Nx.refl hO.src; rw [entries_snoc] at hR5; have HR := Lib.hid hR5; clear hR5 hb5))
      go_roundw
      case rel => exact ⟨k + 1, _, _, _, _, _, rfl, by go_num, rfl, by omega, by omega, Lib.hid (HR.out.nx hT hgB), Lib.hid (fits_snoc HX.out (in64_of (by omega)) (in64_of (by omega)) (in64_of (by omega)) (in64_of (by omega))), hO.trans hT⟩
      case measure => simp [intOf]; omega
    · go_wp2_with (first | (go_at_call 74; refine (spec_l01Next_any K hK g _ _ _ (Nx.refl (Nx.src (by first | exact hT | exact hT.alloc _ | exact (hT.alloc _).alloc _ | exact hT.drew)))).mono ?_; rintro e w3 ⟨x, rfl, ⟨hx0, hx1⟩, hN⟩; have hT := Nx.trans (by first | exact hT | exact hT.alloc _ | exact (hT.alloc _).alloc _ | exact hT.drew) hN) | (go_at_call 79; refine (spec_l01Pick_new K hK g _ _ _ _ (by first | exact hT | exact hT.alloc _ | exact (hT.alloc _).alloc _ | exact hT.drew) (by rfl) (by decide) (by decide) (by rfl)).mono ?_; rintro e w3 ⟨x, rfl, hx, hT⟩; simp only [OneOf, Value.int.injEq, true_and, or_false] at hx) | (at_builtin; refine wpList_append_row_at _ rfl _ _ _ rfl (w.heap.size) 78 i0 _ 4 32 Tryz.underlying22 HI.out.1 HI.out.2.1 HI.out.2.2.1 HI.out.2.2.2 rfl (by decide) (by decide) _ _ _ _ rfl (HR.out.nx hT hgB) [.int .i64 _, .int .i64 _, .int .i64 _, .int .i64 _] _ rfl rfl (by simp [Value.oneCell']) (by omega) (Nat.le_trans hO.size hT.size) ?_; intro A2 c2 w5 hR5 hb5 _ _; have hO := (hO.trans hT).kept hgw (Nat.le_refl _) hb5; have hT := Nx.refl hO.src; rw [entries_snoc] at hR5; have HR := Lib.hid hR5; clear hR5 hb5))
      all_goals try (go_ret; exact ⟨_, _, _, rfl, ⟨_, (HR.out.nx hT hgB).more HT0.out.size, by first | exact HX.out | exact fits_snoc HX.out (in64_of (by omega)) (in64_of (by omega)) (in64_of (by omega)) (in64_of (by omega))⟩, by omega, HT0.out.trans (hO.trans hT)⟩)
      rename_i v y hN0 hy0 hy1 hT0 hb1 hb2
      have hsz := (hO.trans hT0).size
      have HR := Lib.hid ((Res.zero_at (w := v) (B := w.heap.size) (t := 78) (sz := 4) (g := v.heap.size) hsz rfl).nx hN hgB)
      have hO := hO.trans hT
      clear hT hN hT0 hN0 HX hm
      go_loopw [3, 7] (fun o i wr => ∃ (k : Nat) (A' : Option Addr) (c' : Nat) (xs : List Entry) (m : Int), i = .int .i64 m ∧ o = .slice A' k c' ∧ (0 ≤ m ∧ (k : Int) + m ≤ 160) ∧ Hid (Res w.heap.size wr 78 4 A' k c' (entryRows xs)) ∧ Hid (∀ x ∈ xs, x.fits) ∧ Nx K g w wr) (fun _ i _ => (intOf i).toNat)
      case atStart => exact ⟨0, _, _, [], _, rfl, rfl, by omega, HR, Lib.hid (by simp), hO⟩
      case round =>
        obtain ⟨k, A', c', xs, m, rfl, rfl, ⟨m0, m1⟩, HR, HX, hO⟩ := hrel
        have hT := Nx.refl hO.src
        by_cases hm : 0 < m
        · go_wp2_with (at_builtin; refine wpList_append_row_at _ rfl _ _ _ rfl (w.heap.size) 78 i0 _ 4 32 Tryz.underlying22 HI.out.1 HI.out.2.1 HI.out.2.2.1 HI.out.2.2.2 rfl (by decide) (by decide) _ _ _ _ rfl (HR.out.nx hT hgB) [.int .i64 _, .int .i64 _, .int .i64 _, .int .i64 _] _ rfl rfl (by simp [Value.oneCell']) (by omega) (Nat.le_trans hO.size hT.size) ?_; intro A2 c2 w5 hR5 hb5 _ _; have hO := (hO.trans hT).kept hgw (Nat.le_refl _) hb5; have hT := Nx.refl hO.src; rw [entries_snoc] at hR5; have HR := Lib.hid hR5; clear hR5 hb5)
          go_roundw
          case rel => exact ⟨k + 1, _, _, _, _, rfl, rfl, by omega, Lib.hid (HR.out.nx hT hgB), Lib.hid (fits_snoc HX.out (in64_of (by omega)) (in64_of (by omega)) (in64_of (by omega)) (in64_of (by omega))), hO.trans hT⟩
          case measure => simp [intOf]; omega
        · go_wp2
          go_ret
          exact ⟨_, _, _, rfl, ⟨_, HR.out.more HT0.out.size, HX.out⟩, by omega, HT0.out.trans hO⟩

theorem entries_rd {B n c : Nat} {w : World} {A : Option Addr} (h : EntriesBy B w A n c) : ∃ xs : List Entry, xs.length = n ∧ Rd w w.heap.size A 4 (entryRows xs) ∧ ∀ x ∈ xs, x.fits := by
  obtain ⟨xs, hR, hf⟩ := h
  exact ⟨xs, by have := hR.len; simpa [entryRows] using this, hR.rd, hf⟩
theorem EntriesBy.more {B B' n c : Nat} {w : World} {A : Option Addr} (h : EntriesBy B w A n c) (hB : B' ≤ B) : EntriesBy B' w A n c := by
  obtain ⟨xs, hR, hf⟩ := h
  exact ⟨xs, hR.more hB, hf⟩
theorem EntriesBy.nx {K : Code} {g B n c : Nat} {w w' : World} {A : Option Addr} (h : EntriesBy B w A n c) (hT : Nx K g w w') (hB : g < B) : EntriesBy B w' A n c := by
  obtain ⟨xs, hR, hf⟩ := h
  exact ⟨xs, hR.nx hT hB, hf⟩

end Go.Proofs.YtlbllonpodckgaaGreatDoor
