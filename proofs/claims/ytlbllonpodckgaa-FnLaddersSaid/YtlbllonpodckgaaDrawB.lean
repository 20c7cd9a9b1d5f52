/- Draws of bonds and of needs: whatever is drawn, it is a list of its own, and nothing but the source turns. -/
import Derived.Test.YtlbllonpodckgaaDrawA
import Derived.Test.YtlbllonpodckgaaStBond
namespace Go.Proofs.Ytlbllonpodckgaa
open Go.RowKit Go.BigFrame

theorem zeros_made (n : Nat) : (madeCells (Value.int .i64 0).cells (n * 1)).toList = (intRows (List.replicate n 0)).flatten := by
  have e1 : (madeCells (Value.int .i64 0).cells (n * 1)).toList = List.replicate n (Value.int .i64 0) := by
    refine List.eq_replicate_iff.2 ⟨by simp [madeCells], fun b hb => ?_⟩
    simp only [madeCells, Array.toList_map, List.mem_map] at hb
    obtain ⟨i, _, rfl⟩ := hb
    have : i % (Value.int .i64 0).cells.size = 0 := by
      have h1 : (Value.int .i64 0).cells.size = 1 := rfl
      rw [h1]; exact Nat.mod_one i
    rw [this]; rfl
  rw [e1]
  induction n with
  | zero => rfl
  | succ n ih => rw [List.replicate_succ, List.replicate_succ, intRows, List.map_cons, List.flatten_cons, ← intRows, ← ih (by
      refine List.eq_replicate_iff.2 ⟨by simp [madeCells], fun b hb => ?_⟩
      simp only [madeCells, Array.toList_map, List.mem_map] at hb
      obtain ⟨i, _, rfl⟩ := hb
      have : i % (Value.int .i64 0).cells.size = 0 := by
        have h1 : (Value.int .i64 0).cells.size = 1 := rfl
        rw [h1]; exact Nat.mod_one i
      rw [this]; rfl)]; rfl
theorem Res.made (w : World) (B n : Nat) (t : TypeId) (hB : B ≤ w.heap.size) (hn : n ≤ 1048576) : Res B (w.alloc (.cells (madeCells (Value.int .i64 0).cells (n * 1)) t)) t 1 (some ⟨w.heap.size, 0, none⟩) n n (intRows (List.replicate n 0)) := by
  have h := World.ownsRow_lit (base := B) (e := t) (size := 1) w (madeCells (Value.int .i64 0).cells (n * 1)) n hB (by unfold maxLen; omega) (by simp [madeCells])
  rw [zeros_made] at h
  exact ⟨h, by simp [intRows], intRows_all _⟩

def zeroCells (n : Nat) : Array Value := madeCells (Value.int .i64 0).cells (n * 1)
/-- an own list of bonds -/
def BondsBy (B : Nat) (w : World) (A : Option Addr) (n c : Nat) : Prop := ∃ xs : List Bond, Res B w 66 3 A n c (bondRows xs) ∧ ∀ x ∈ xs, x.fits
theorem bonds_snoc (xs : List Bond) (a b c : Int) : bondRows xs ++ [[.int .i64 a, .int .i64 b, .int .i64 c]] = bondRows (xs ++ [⟨a, b, c⟩]) := by simp [bondRows, Bond.row]
theorem bond_fits_snoc {xs : List Bond} {a b c : Int} (h : ∀ x ∈ xs, x.fits) (ha : In64 a) (hb : In64 b) (hc : In64 c) : ∀ x ∈ xs ++ [(⟨a, b, c⟩ : Bond)], x.fits := by
  intro x hx
  rcases List.mem_append.1 hx with h' | h'
  · exact h x h'
  · simp only [List.mem_singleton] at h'; rw [h']; exact ⟨ha, hb, hc⟩
theorem in64_of {x : Int} (h : -1000000000000000 ≤ x ∧ x ≤ 1000000000000000) : In64 x := by unfold In64; omega
theorem BondsBy.more {B B' n c : Nat} {w : World} {A : Option Addr} (h : BondsBy B w A n c) (hB : B' ≤ B) : BondsBy B' w A n c := by
  obtain ⟨xs, hR, hf⟩ := h
  exact ⟨xs, hR.more hB, hf⟩
theorem BondsBy.nx {K : Code} {g B n c : Nat} {w w' : World} {A : Option Addr} (h : BondsBy B w A n c) (hT : Nx K g w w') (hB : g < B) : BondsBy B w' A n c := by
  obtain ⟨xs, hR, hf⟩ := h
  exact ⟨xs, hR.nx hT hB, hf⟩
theorem bonds_rd {B n c : Nat} {w : World} {A : Option Addr} (h : BondsBy B w A n c) : ∃ xs : List Bond, xs.length = n ∧ Rd w w.heap.size A 3 (bondRows xs) ∧ ∀ x ∈ xs, x.fits := by
  obtain ⟨xs, hR, hf⟩ := h
  exact ⟨xs, by have := hR.len; simpa [bondRows] using this, hR.rd, hf⟩
theorem IntsBy.more {B B' n c : Nat} {lo hi : Int} {w : World} {A : Option Addr} (h : IntsBy B w A n c lo hi) (hB : B' ≤ B) : IntsBy B' w A n c lo hi := by
  obtain ⟨xs, hR, hf⟩ := h
  exact ⟨xs, hR.more hB, hf⟩
theorem IntsBy.nx {K : Code} {g B n c : Nat} {lo hi : Int} {w w' : World} {A : Option Addr} (h : IntsBy B w A n c lo hi) (hT : Nx K g w w') (hB : g < B) : IntsBy B w' A n c lo hi := by
  obtain ⟨xs, hR, hf⟩ := h
  exact ⟨xs, hR.nx hT hB, hf⟩
theorem ints_rd {B n c : Nat} {lo hi : Int} {w : World} {A : Option Addr} (h : IntsBy B w A n c lo hi) : ∃ xs : List Int, xs.length = n ∧ Rd w w.heap.size A 1 (intRows xs) ∧ ∀ x ∈ xs, lo ≤ x ∧ x ≤ hi := by
  obtain ⟨xs, hR, hf⟩ := h
  exact ⟨xs, by have := hR.len; simpa [intRows] using this, hR.rd, hf⟩

set_option maxHeartbeats 4000000 in
theorem spec_l20Draw_any (K : Code) (hK : K.Ok) (g : Nat) (w0 : World) (w : World) (hT : Nx K g w0 w) :
    Calls Try.prog 67 #[.pointer (some ⟨g, 0, none⟩)] w fun e w' => ∃ (A' : Option Addr) (n' c' : Nat), e = .returned (.slice A' n' c') ∧ BondsBy w0.heap.size w' A' n' c' ∧ n' ≤ 200 ∧ Nx K g w0 w' := by
  obtain ⟨i0, hi0, hz0, hz1, hz2⟩ := info_parts Bond.info
  have HI := Lib.hid (And.intro hi0 (And.intro hz0 (And.intro hz1 hz2))); clear hi0 hz0 hz1 hz2
  have HT0 := Lib.hid hT
  have hO := Nx.refl hT.src
  have hgw := hT.src.lt
  have hgB : g < w.heap.size := hgw
  clear hT
  have HR0 := Lib.hid (Res.zero_at (w := w) (B := w.heap.size) (t := 66) (sz := 3) (g := w.heap.size) (by simp) (by simp))
  go_enter Try.func67, Try.ntmps67
  go_wp2_with fail
  have hO := hO.alloc (.cells #[] 66)
  have hT := Nx.refl hO.src
  have HR := HR0
  go_wp2_with (first | (go_at_call 47; refine (spec_l01Next_any K hK g _ _ _ (Nx.refl (Nx.src (by first | exact hT | exact hT.alloc _ | exact (hT.alloc _).alloc _ | exact hT.drew)))).mono ?_; rintro e w3 ⟨x, rfl, ⟨hx0, hx1⟩, hN⟩; have hT := Nx.trans (by first | exact hT | exact hT.alloc _ | exact (hT.alloc _).alloc _ | exact hT.drew) hN) | (go_at_call 46; refine (spec_l01Pick_new K hK g _ _ _ _ (by first | exact hT | exact hT.alloc _ | exact (hT.alloc _).alloc _ | exact hT.drew) (by rfl) (by decide) (by decide) (by rfl)).mono ?_; rintro e w3 ⟨x, rfl, hx, hT⟩; simp only [OneOf, Value.int.injEq, true_and, or_false] at hx))
  have HR := Lib.hid (HR.out.nx hT hgB)
  have hO := hO.trans hT
  clear hT hN
  go_loopw [3, 4] (fun o i wr => ∃ (k : Nat) (A' : Option Addr) (c' : Nat) (xs : List Bond) (m : Int), i = .int .i64 m ∧ o = .slice A' k c' ∧ (0 ≤ m ∧ (k : Int) + m ≤ 10) ∧ Hid (Res w.heap.size wr 66 3 A' k c' (bondRows xs)) ∧ Hid (∀ x ∈ xs, x.fits) ∧ Nx K g w wr) (fun _ i _ => (intOf i).toNat)
  case atStart => exact ⟨0, _, _, [], _, rfl, rfl, by omega, HR, Lib.hid (by simp), hO⟩
  case round =>
    obtain ⟨k, A', c', xs, m, rfl, rfl, ⟨m0, m1⟩, HR, HX, hO⟩ := hrel
    have hT := Nx.refl hO.src
    by_cases hm : 0 < m
    · go_wp2_with (first | (go_at_call 47; refine (spec_l01Next_any K hK g _ _ _ (Nx.refl (Nx.src (by first | exact hT | exact hT.alloc _ | exact (hT.alloc _).alloc _ | exact hT.drew)))).mono ?_; rintro e w3 ⟨x, rfl, ⟨hx0, hx1⟩, hN⟩; have hT := Nx.trans (by first | exact hT | exact hT.alloc _ | exact (hT.alloc _).alloc _ | exact hT.drew) hN) | (go_at_call 46; refine (spec_l01Pick_new K hK g _ _ _ _ (by first | exact hT | exact hT.alloc _ | exact (hT.alloc _).alloc _ | exact hT.drew) (by rfl) (by decide) (by decide) (by rfl)).mono ?_; rintro e w3 ⟨x, rfl, hx, hT⟩; simp only [OneOf, Value.int.injEq, true_and, or_false] at hx) | (at_builtin; refine wpList_append_row_at _ rfl _ _ _ rfl (w.heap.size) 66 i0 _ 3 24 Try.underlying34 HI.out.1 HI.out.2.1 HI.out.2.2.1 HI.out.2.2.2 rfl (by decide) (by decide) _ _ _ _ rfl (HR.out.nx hT hgB) [.int .i64 _, .int .i64 _, .int .i64 _] _ rfl rfl (by simp [Value.oneCell']) (by omega) (Nat.le_trans hO.size hT.size) ?_; intro A2 c2 w5 hR5 hb5 _ _; have hO := (hO.trans hT).kept hgw (Nat.le_refl _) hb5; have hT := Nx.refl hO.src; rw [bonds_snoc] at hR5; have HR := Lib.hid hR5; clear hR5 hb5))
      go_roundw
      case rel => exact ⟨k + 1, _, _, _, _, rfl, rfl, by omega, Lib.hid (HR.out.nx hT hgB), Lib.hid (bond_fits_snoc HX.out (in64_of (by omega)) (in64_of (by omega)) (in64_of (by omega))), hO.trans hT⟩
      case measure => simp [intOf]; omega
    · go_wp2_with (first | (go_at_call 47; refine (spec_l01Next_any K hK g _ _ _ (Nx.refl (Nx.src (by first | exact hT | exact hT.alloc _ | exact (hT.alloc _).alloc _ | exact hT.drew)))).mono ?_; rintro e w3 ⟨x, rfl, ⟨hx0, hx1⟩, hN⟩; have hT := Nx.trans (by first | exact hT | exact hT.alloc _ | exact (hT.alloc _).alloc _ | exact hT.drew) hN) | (go_at_call 46; refine (spec_l01Pick_new K hK g _ _ _ _ (by first | exact hT | exact hT.alloc _ | exact (hT.alloc _).alloc _ | exact hT.drew) (by rfl) (by decide) (by decide) (by rfl)).mono ?_; rintro e w3 ⟨x, rfl, hx, hT⟩; simp only [OneOf, Value.int.injEq, true_and, or_false] at hx) | (at_builtin; refine wpList_append_row_at _ rfl _ _ _ rfl (w.heap.size) 66 i0 _ 3 24 Try.underlying34 HI.out.1 HI.out.2.1 HI.out.2.2.1 HI.out.2.2.2 rfl (by decide) (by decide) _ _ _ _ rfl (HR.out.nx hT hgB) [.int .i64 _, .int .i64 _, .int .i64 _] _ rfl rfl (by simp [Value.oneCell']) (by omega) (Nat.le_trans hO.size hT.size) ?_; intro A2 c2 w5 hR5 hb5 _ _; have hO := (hO.trans hT).kept hgw (Nat.le_refl _) hb5; have hT := Nx.refl hO.src; rw [bonds_snoc] at hR5; have HR := Lib.hid hR5; clear hR5 hb5))
      all_goals try (go_ret; exact ⟨_, _, _, rfl, ⟨_, (HR.out.nx hT hgB).more HT0.out.size, by first | exact HX.out | exact bond_fits_snoc HX.out (in64_of (by omega)) (in64_of (by omega)) (in64_of (by omega))⟩, by omega, HT0.out.trans (hO.trans hT)⟩)
      rename_i v y hN0 hy0 hy1 hT0 hb0 hb1 hb2
      have hsz := (hO.trans hT0).size
      have HR := Lib.hid ((Res.zero_at (w := v) (B := w.heap.size) (t := 66) (sz := 3) (g := v.heap.size) hsz rfl).nx hN hgB)
      have hO := hO.trans hT
      clear hT hN hT0 hN0 HX hm
      go_loopw [3, 5] (fun o i wr => ∃ (k : Nat) (A' : Option Addr) (c' : Nat) (xs : List Bond) (m : Int), i = .int .i64 m ∧ o = .slice A' k c' ∧ (0 ≤ m ∧ (k : Int) + m ≤ 40) ∧ Hid (Res w.heap.size wr 66 3 A' k c' (bondRows xs)) ∧ Hid (∀ x ∈ xs, x.fits) ∧ Nx K g w wr) (fun _ i _ => (intOf i).toNat)
      case atStart => exact ⟨0, _, _, [], _, rfl, rfl, by omega, HR, Lib.hid (by simp), hO⟩
      case round =>
        obtain ⟨k, A', c', xs, m, rfl, rfl, ⟨m0, m1⟩, HR, HX, hO⟩ := hrel
        have hT := Nx.refl hO.src
        by_cases hm : 0 < m
        · go_wp2_with (at_builtin; refine wpList_append_row_at _ rfl _ _ _ rfl (w.heap.size) 66 i0 _ 3 24 Try.underlying34 HI.out.1 HI.out.2.1 HI.out.2.2.1 HI.out.2.2.2 rfl (by decide) (by decide) _ _ _ _ rfl (HR.out.nx hT hgB) [.int .i64 _, .int .i64 _, .int .i64 _] _ rfl rfl (by simp [Value.oneCell']) (by omega) (Nat.le_trans hO.size hT.size) ?_; intro A2 c2 w5 hR5 hb5 _ _; have hO := (hO.trans hT).kept hgw (Nat.le_refl _) hb5; have hT := Nx.refl hO.src; rw [bonds_snoc] at hR5; have HR := Lib.hid hR5; clear hR5 hb5)
          go_roundw
          case rel => exact ⟨k + 1, _, _, _, _, rfl, rfl, by omega, Lib.hid (HR.out.nx hT hgB), Lib.hid (bond_fits_snoc HX.out (in64_of (by omega)) (in64_of (by omega)) (in64_of (by omega))), hO.trans hT⟩
          case measure => simp [intOf]; omega
        · go_wp2
          go_ret
          exact ⟨_, _, _, rfl, ⟨_, HR.out.more HT0.out.size, HX.out⟩, by omega, HT0.out.trans hO⟩

set_option maxHeartbeats 4000000 in
theorem spec_l20DrawNeeds_any (K : Code) (hK : K.Ok) (g : Nat) (w0 : World) (w : World) (hT : Nx K g w0 w) :
    Calls Try.prog 45 #[.pointer (some ⟨g, 0, none⟩)] w fun e w' => ∃ (A' : Option Addr) (n' c' : Nat), e = .returned (.slice A' n' c') ∧ IntsBy w0.heap.size w' A' n' c' (-1) 1000000001 ∧ n' ≤ 200 ∧ Nx K g w0 w' := by
  obtain ⟨i0, hi0, hz0, hz1, hz2⟩ := info_parts Int64.info
  have HI := Lib.hid (And.intro hi0 (And.intro hz0 (And.intro hz1 hz2))); clear hi0 hz0 hz1 hz2
  have HT0 := Lib.hid hT
  have hO := Nx.refl hT.src
  have hgw := hT.src.lt
  have hgB : g < w.heap.size := hgw
  clear hT
  have HR0 := Lib.hid (Res.zero_at (w := w) (B := w.heap.size) (t := 2) (sz := 1) (g := w.heap.size) (by simp) (by simp))
  have hmk40 : ∀ W : World, (Instr.makeSlice 33 (.int .i64 40) (.int .i64 40)).run Try.prog W = .ok (.slice (some ⟨W.heap.size, 0, none⟩) 40 40) (W.alloc (.cells (zeroCells 40) 2)) := fun W => by
    obtain ⟨hi0, hz0, hz1, hz2⟩ := HI.out
    have h := run_make_rowN (P := Try.prog) 33 2 i0 _ Try.underlying33 hi0 hz0 .i64 .i64 40 40 (Nat.le_refl _) (by rw [hz2]; omega) (by omega) W
    rw [hz1] at h
    exact h
  have hmk41 : ∀ W : World, (Instr.makeSlice 33 (.int .i64 41) (.int .i64 41)).run Try.prog W = .ok (.slice (some ⟨W.heap.size, 0, none⟩) 41 41) (W.alloc (.cells (zeroCells 41) 2)) := fun W => by
    obtain ⟨hi0, hz0, hz1, hz2⟩ := HI.out
    have h := run_make_rowN (P := Try.prog) 33 2 i0 _ Try.underlying33 hi0 hz0 .i64 .i64 41 41 (Nat.le_refl _) (by rw [hz2]; omega) (by omega) W
    rw [hz1] at h
    exact h
  have hmk30 : ∀ W : World, (Instr.makeSlice 33 (.int .i64 30) (.int .i64 30)).run Try.prog W = .ok (.slice (some ⟨W.heap.size, 0, none⟩) 30 30) (W.alloc (.cells (zeroCells 30) 2)) := fun W => by
    obtain ⟨hi0, hz0, hz1, hz2⟩ := HI.out
    have h := run_make_rowN (P := Try.prog) 33 2 i0 _ Try.underlying33 hi0 hz0 .i64 .i64 30 30 (Nat.le_refl _) (by rw [hz2]; omega) (by omega) W
    rw [hz1] at h
    exact h
  have hmk31 : ∀ W : World, (Instr.makeSlice 33 (.int .i64 31) (.int .i64 31)).run Try.prog W = .ok (.slice (some ⟨W.heap.size, 0, none⟩) 31 31) (W.alloc (.cells (zeroCells 31) 2)) := fun W => by
    obtain ⟨hi0, hz0, hz1, hz2⟩ := HI.out
    have h := run_make_rowN (P := Try.prog) 33 2 i0 _ Try.underlying33 hi0 hz0 .i64 .i64 31 31 (Nat.le_refl _) (by rw [hz2]; omega) (by omega) W
    rw [hz1] at h
    exact h
  go_enter Try.func45, Try.ntmps45
  go_wp2_with fail
  have hO := hO.alloc (.cells #[] 2)
  have hT := Nx.refl hO.src
  have HR := HR0
  go_wp2_with (first | (go_at_call 47; refine (spec_l01Next_any K hK g _ _ _ (Nx.refl (Nx.src (by first | exact hT | exact hT.alloc _ | exact (hT.alloc _).alloc _ | exact hT.drew)))).mono ?_; rintro e w3 ⟨x, rfl, ⟨hx0, hx1⟩, hN⟩; have hT := Nx.trans (by first | exact hT | exact hT.alloc _ | exact (hT.alloc _).alloc _ | exact hT.drew) hN) | (go_at_call 46; refine (spec_l01Pick_new K hK g _ _ _ _ (by first | exact hT | exact hT.alloc _ | exact (hT.alloc _).alloc _ | exact hT.drew) (by rfl) (by decide) (by decide) (by rfl)).mono ?_; rintro e w3 ⟨x, rfl, hx, hT⟩; simp only [OneOf, Value.int.injEq, true_and, or_false] at hx))
  have HR := Lib.hid (HR.out.nx hT hgB)
  have hO := hO.trans hT
  clear hT hN
  go_loopw [3, 4] (fun o i wr => ∃ (k : Nat) (A' : Option Addr) (c' : Nat) (xs : List Int) (m : Int), i = .int .i64 m ∧ o = .slice A' k c' ∧ (0 ≤ m ∧ (k : Int) + m ≤ 12) ∧ Hid (Res w.heap.size wr 2 1 A' k c' (intRows xs)) ∧ Hid (∀ x ∈ xs, -1 ≤ x ∧ x ≤ 1000000001) ∧ Nx K g w wr) (fun _ i _ => (intOf i).toNat)
  case atStart => exact ⟨0, _, _, [], _, rfl, rfl, by omega, HR, Lib.hid (by simp), hO⟩
  case round =>
    obtain ⟨k, A', c', xs, m, rfl, rfl, ⟨m0, m1⟩, HR, HX, hO⟩ := hrel
    have hT := Nx.refl hO.src
    by_cases hm : 0 < m
    · go_wp2_with (first | (go_at_call 47; refine (spec_l01Next_any K hK g _ _ _ (Nx.refl (Nx.src (by first | exact hT | exact hT.alloc _ | exact (hT.alloc _).alloc _ | exact hT.drew)))).mono ?_; rintro e w3 ⟨x, rfl, ⟨hx0, hx1⟩, hN⟩; have hT := Nx.trans (by first | exact hT | exact hT.alloc _ | exact (hT.alloc _).alloc _ | exact hT.drew) hN) | (go_at_call 46; refine (spec_l01Pick_new K hK g _ _ _ _ (by first | exact hT | exact hT.alloc _ | exact (hT.alloc _).alloc _ | exact hT.drew) (by rfl) (by decide) (by decide) (by rfl)).mono ?_; rintro e w3 ⟨x, rfl, hx, hT⟩; simp only [OneOf, Value.int.injEq, true_and, or_false] at hx) | (at_builtin; refine wpList_append_row_at _ rfl _ _ _ rfl (w.heap.size) 2 i0 _ 1 8 Try.underlying33 HI.out.1 HI.out.2.1 HI.out.2.2.1 HI.out.2.2.2 rfl (by decide) (by decide) _ _ _ _ rfl (HR.out.nx hT hgB) [.int .i64  _] _ rfl rfl (by simp [Value.oneCell']) (by omega) (Nat.le_trans hO.size hT.size) ?_; intro A2 c2 w5 hR5 hb5 _ _; have hO := (hO.trans hT).kept hgw (Nat.le_refl _) hb5; have hT := Nx.refl hO.src; rw [← intRows_snoc] at hR5; have HR := Lib.hid hR5; clear hR5 hb5))
      go_roundw
      case rel => exact ⟨k + 1, _, _, _, _, rfl, rfl, by omega, Lib.hid (HR.out.nx hT hgB), Lib.hid (ints_snoc HX.out (by omega)), hO.trans hT⟩
      case measure => simp [intOf]; omega
    · go_wp2_with (first | (go_at_call 47; refine (spec_l01Next_any K hK g _ _ _ (Nx.refl (Nx.src (by first | exact hT | exact hT.alloc _ | exact (hT.alloc _).alloc _ | exact hT.drew)))).mono ?_; rintro e w3 ⟨x, rfl, ⟨hx0, hx1⟩, hN⟩; have hT := Nx.trans (by first | exact hT | exact hT.alloc _ | exact (hT.alloc _).alloc _ | exact hT.drew) hN) | ((go_at_call 46; refine (spec_l01Pick_new K hK g _ _ _ _ (by first | exact hT | exact hT.alloc _ | exact (hT.alloc _).alloc _ | exact hT.drew) (by rfl) (by decide) (by decide) (by rfl)).mono ?_; rintro e w3 ⟨x, rfl, hx, hT⟩; simp only [OneOf, Value.int.injEq, true_and, or_false] at hx); rcases hx with rfl | rfl | rfl | rfl) | (go_at_call 46; refine (spec_l01Pick_new K hK g _ _ _ _ (by first | exact hT | exact hT.alloc _ | exact (hT.alloc _).alloc _ | exact hT.drew) (by rfl) (by decide) (by decide) (by rfl)).mono ?_; rintro e w3 ⟨x, rfl, hx, hT⟩; simp only [OneOf, Value.int.injEq, true_and, or_false] at hx) | (at_builtin; refine wpList_append_row_at _ rfl _ _ _ rfl (w.heap.size) 2 i0 _ 1 8 Try.underlying33 HI.out.1 HI.out.2.1 HI.out.2.2.1 HI.out.2.2.2 rfl (by decide) (by decide) _ _ _ _ rfl (HR.out.nx hT hgB) [.int .i64  _] _ rfl rfl (by simp [Value.oneCell']) (by omega) (Nat.le_trans hO.size hT.size) ?_; intro A2 c2 w5 hR5 hb5 _ _; have hO := (hO.trans hT).kept hgw (Nat.le_refl _) hb5; have hT := Nx.refl hO.src; rw [← intRows_snoc] at hR5; have HR := Lib.hid hR5; clear hR5 hb5))
      all_goals try (go_ret; exact ⟨_, _, _, rfl, ⟨_, (HR.out.nx hT hgB).more HT0.out.size, by first | exact HX.out | exact ints_snoc HX.out (by omega)⟩, by omega, HT0.out.trans (hO.trans hT)⟩)
      all_goals (go_ret; exact ⟨_, _, _, rfl, ⟨List.replicate _ 0, Res.made _ _ _ _ (Nat.le_trans HT0.out.size (hO.trans hT).size) (by decide), by intro x hx; rw [List.eq_of_mem_replicate hx]; omega⟩, by omega, HT0.out.trans ((hO.trans hT).alloc _)⟩)

theorem spec_DrawKeptMoney_any (K : Code) (hK : K.Ok) (w : World) (hX : Rd w w.heap.size K.A 1 (byteRows K.bs)) :
    Calls Try.prog 48 #[.slice K.A K.n K.c] w fun e w' => ∃ (A' : Option Addr) (n' c' : Nat) (B' : Option Addr) (p' q' : Nat) (r : Int), e = .returned (.tuple #[.slice A' n' c', .slice B' p' q', .int .i64 r]) ∧ BondsBy w.heap.size w' A' n' c' ∧ n' ≤ 200 ∧ IntsBy w.heap.size w' B' p' q' (-1) 1000000001 ∧ p' ≤ 200 ∧ In64 r ∧ Below w.heap.size w w' := by
  go_enter Try.func48, Try.ntmps48
  go_wp2_with fail
  refine (spec_l01From_any K hK _ hX).mono ?_
  rintro e w1 ⟨g, rfl, hg, hb, hS⟩
  have hT := Nx.refl hS
  go_wp2_with (first | ((go_at_call 67; refine (spec_l20Draw_any K hK g _ _ (by first | exact hT | exact hT.alloc _ | exact (hT.alloc _).alloc _ | exact hT.drew) ).mono ?_; rintro e w3 ⟨A1, n1, c1, rfl, hE, hn1, hT⟩); have hO := hT; have hT := Nx.refl hT.src) | ((go_at_call 45; refine (spec_l20DrawNeeds_any K hK g _ _ (by first | exact hT | exact hT.alloc _ | exact (hT.alloc _).alloc _ | exact hT.drew) ).mono ?_; rintro e w3 ⟨A2, n2, c2, rfl, hE2, hn2, hT⟩); have hE := (hE.nx hT hS.lt); have hE2 := hE2.more hO.size; have hO := hO.trans hT; have hT := Nx.refl hT.src) | (go_at_call 47; refine (spec_l01Next_any K hK g _ _ _ (Nx.refl (Nx.src (by first | exact hT | exact hT.alloc _ | exact (hT.alloc _).alloc _ | exact hT.drew)))).mono ?_; rintro e w3 ⟨x, rfl, ⟨hx0, hx1⟩, hN⟩; have hT := Nx.trans (by first | exact hT | exact hT.alloc _ | exact (hT.alloc _).alloc _ | exact hT.drew) hN) | (go_at_call 46; refine (spec_l01Pick_new K hK g _ _ _ _ (by first | exact hT | exact hT.alloc _ | exact (hT.alloc _).alloc _ | exact hT.drew) (by rfl) (by decide) (by decide) (by rfl)).mono ?_; rintro e w3 ⟨x, rfl, hx, hT⟩; simp only [OneOf, Value.int.injEq, true_and, or_false] at hx))
  all_goals (go_ret3; exact ⟨_, _, _, _, _, _, _, rfl, (hE.nx hT hS.lt).more hb.size, hn1, (hE2.nx hT hS.lt).more hb.size, hn2, in64_of (by omega), hb.trans ((hO.trans hT).out hg)⟩)
theorem spec_DrawCashNeeded_any (K : Code) (hK : K.Ok) (w : World) (hX : Rd w w.heap.size K.A 1 (byteRows K.bs)) :
    Calls Try.prog 22 #[.slice K.A K.n K.c] w fun e w' => ∃ (A' : Option Addr) (n' c' : Nat) (B' : Option Addr) (p' q' : Nat), e = .returned (.tuple #[.slice A' n' c', .slice B' p' q']) ∧ BondsBy w.heap.size w' A' n' c' ∧ n' ≤ 200 ∧ IntsBy w.heap.size w' B' p' q' (-1) 1000000001 ∧ p' ≤ 200 ∧ Below w.heap.size w w' := by
  go_enter Try.func22, Try.ntmps22
  go_wp2_with fail
  refine (spec_DrawKeptMoney_any K hK _ hX).mono ?_
  rintro e w1 ⟨A1, n1, c1, A2, n2, c2, r, rfl, hE, hn1, hE2, hn2, _, hb⟩
  go_wp2
  go_ret2
  exact ⟨_, _, _, _, _, _, rfl, hE, hn1, hE2, hn2, hb⟩
theorem spec_DrawBuildLadder_any (K : Code) (hK : K.Ok) (w : World) (hX : Rd w w.heap.size K.A 1 (byteRows K.bs)) :
    Calls Try.prog 21 #[.slice K.A K.n K.c] w fun e w' => ∃ (B' : Option Addr) (p' q' : Nat) (r : Int), e = .returned (.tuple #[.slice B' p' q', .int .i64 r]) ∧ IntsBy w.heap.size w' B' p' q' (-1) 1000000001 ∧ p' ≤ 200 ∧ In64 r ∧ Below w.heap.size w w' := by
  go_enter Try.func21, Try.ntmps21
  go_wp2_with fail
  refine (spec_l01From_any K hK _ hX).mono ?_
  rintro e w1 ⟨g, rfl, hg, hb, hS⟩
  have hT := Nx.refl hS
  go_wp2_with (first | ((go_at_call 45; refine (spec_l20DrawNeeds_any K hK g _ _ (by first | exact hT | exact hT.alloc _ | exact (hT.alloc _).alloc _ | exact hT.drew) ).mono ?_; rintro e w3 ⟨A1, n1, c1, rfl, hE, hn1, hT⟩); have hO := hT; have hT := Nx.refl hT.src) | (go_at_call 47; refine (spec_l01Next_any K hK g _ _ _ (Nx.refl (Nx.src (by first | exact hT | exact hT.alloc _ | exact (hT.alloc _).alloc _ | exact hT.drew)))).mono ?_; rintro e w3 ⟨x, rfl, ⟨hx0, hx1⟩, hN⟩; have hT := Nx.trans (by first | exact hT | exact hT.alloc _ | exact (hT.alloc _).alloc _ | exact hT.drew) hN) | (go_at_call 46; refine (spec_l01Pick_new K hK g _ _ _ _ (by first | exact hT | exact hT.alloc _ | exact (hT.alloc _).alloc _ | exact hT.drew) (by rfl) (by decide) (by decide) (by rfl)).mono ?_; rintro e w3 ⟨x, rfl, hx, hT⟩; simp only [OneOf, Value.int.injEq, true_and, or_false] at hx))
  go_ret2
  exact ⟨_, _, _, _, rfl, (hE.nx hT hS.lt).more hb.size, hn1, in64_of (by omega), hb.trans ((hO.trans hT).out hg)⟩
end Go.Proofs.Ytlbllonpodckgaa
