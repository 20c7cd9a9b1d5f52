/- What the laws on journals draw. -/
import Derived.Test.YtlbllonpodckgaaGreatDoorDrawL
import Derived.Test.YtlbllonpodckgaaGreatDoorDamage
import Derived.Test.YtlbllonpodckgaaGreatDoorJour4
import Derived.Test.YtlbllonpodckgaaGreatDoorTail
namespace Go.Proofs.YtlbllonpodckgaaGreatDoor
open Go.RowKit Go.BigFrame

theorem spec_DrawJournalText_any (K : Code) (hK : K.Ok) (w : World) (hX : Rd w w.heap.size K.A 1 (byteRows K.bs)) :
    Calls Tryz.prog 14 #[.slice K.A K.n K.c] w fun e w' => ∃ (A' : Option Addr) (n' c' : Nat), e = .returned (.slice A' n' c') ∧ EntriesBy w.heap.size w' A' n' c' ∧ n' ≤ 200 ∧ Below w.heap.size w w' := by
  go_enter Tryz.func14, Tryz.ntmps14
  go_wp2_with fail
  refine (spec_l01From_any K hK _ hX).mono ?_
  rintro e w1 ⟨g, rfl, hg, hb, hS⟩
  have hT := Nx.refl hS
  go_wp2_with (go_at_call 68; refine (spec_l22Draw_any K hK g _ _ (by first | exact hT | exact hT.alloc _ | exact (hT.alloc _).alloc _ | exact hT.drew) ).mono ?_; rintro e w3 ⟨A1, n1, c1, rfl, hE, hn1, hT⟩)
  go_ret
  exact ⟨_, _, _, rfl, hE.more hb.size, hn1, hb.trans (hT.out hg)⟩

def zeroB (n : Nat) : Array Value := madeCells (Value.int .u8 0).cells (n * 1)
theorem zeroB_get {n i : Nat} (h : i < n) : (zeroB n)[i]? = some (.int .u8 0) := by
  have hc : (Value.int .u8 0).cells = #[.int .u8 0] := rfl
  unfold zeroB
  rw [hc, Nat.mul_one]
  simp [madeCells, h, Nat.mod_one]
theorem make_bytes (n : Nat) (hn : n ≤ 100000) (W : World) : (Instr.makeSlice 28 (.int .i64 (n : Int)) (.int .i64 (n : Int))).run Tryz.prog W = .ok (.slice (some ⟨W.heap.size, 0, none⟩) n n) (W.alloc (.cells (zeroB n) 5)) := by
  obtain ⟨i0, hi0, hz0, hz1, hz2⟩ := info_parts byteInfo
  have h := run_make_rowN (P := Tryz.prog) 28 5 i0 _ Tryz.underlying28 hi0 hz0 .i64 .i64 n n (Nat.le_refl _) (by rw [hz2]; omega) (by omega) W
  rw [hz1] at h
  exact h
theorem conv_zeros (n : Nat) (W : World) : (convert 28 9 (.slice (some ⟨W.heap.size, 0, none⟩) n n)).run Tryz.prog (W.alloc (.cells (zeroB n) 5)) = .ok (.string (S (List.replicate n 0))) (W.alloc (.cells (zeroB n) 5)) := by
  have h := run_convert_bytes_back (W.alloc (.cells (zeroB n) 5)) 28 9 5 ⟨W.heap.size, 0, none⟩ n (List.replicate n 0) Tryz.underlying28 Tryz.underlying5 Tryz.underlying9 (fun j hj => by
    rw [List.length_replicate] at hj
    rw [add_none, (Blk.new W _ _).cell, Nat.zero_add, zeroB_get hj]
    simp)
  rwa [List.length_replicate] at h
def StrE (w w' : World) (e : Ending) : Prop := ∃ r : ByteArray, e = .returned (.string r) ∧ r.size ≤ 20000 ∧ Below w.heap.size w w'
theorem jourP_size (xs : List Entry) : (S (jourP xs).1).size ≤ 15000 := by
  rw [S_size]
  unfold jourP
  split
  · rename_i h
    have h1 := ledger_len h
    have h2 := (jourS_bound (xs := xs) (fun e he => entry_ok (ledger_entry h he))).2
    show (jourS xs).2.length ≤ 15000
    omega
  · show (0 : Nat) ≤ 15000; omega
set_option maxHeartbeats 4000000 in
set_option maxRecDepth 100000 in
theorem spec_DrawRecoverLedger_any (K : Code) (hK : K.Ok) (w : World) (hX : Rd w w.heap.size K.A 1 (byteRows K.bs)) :
    Calls Tryz.prog 17 #[.slice K.A K.n K.c] w fun e w' => StrE w w' e := by
  go_enter Tryz.func17, Tryz.ntmps17
  go_wp2_with fail
  refine (spec_l01From_any K hK _ hX).mono ?_
  rintro e w1 ⟨g, rfl, hg, hb, hS⟩
  have hT0 := Nx.refl hS
  go_wp2_with fail
  refine (spec_l22Draw_any K hK g _ _ hT0).mono ?_
  rintro e w2 ⟨A1, n1, c1, rfl, hE, hn1, hT1⟩
  obtain ⟨xs, hl0, hR, hf0⟩ := entries_rd hE
  clear hT0 hE
  go_wp2_with fail
  refine (spec_JournalText_any A1 n1 c1 xs _ hl0 (by omega) hR hf0).mono ?_
  rintro e w3 ⟨rfl, hb3⟩
  have hT := hT1.past hb3
  have hz := jourP_size xs
  clear hb3 hT1 hR
  generalize S (jourP xs).1 = J at hz ⊢
  go_wp2_with (first | (go_at_call 74; refine (spec_l01Next_any K hK g _ _ _ (Nx.refl (Nx.src (by first | exact hT | exact hT.alloc _ | exact (hT.alloc _).alloc _ | exact hT.drew)))).mono ?_; rintro e w3 ⟨x, rfl, ⟨hx0, hx1⟩, hN⟩; have hT := Nx.trans (by first | exact hT | exact hT.alloc _ | exact (hT.alloc _).alloc _ | exact hT.drew) hN) | (go_at_call 75; refine (spec_l01Damage_any K hK g _ J (by omega) _ hT).mono ?_; rintro e w5 ⟨r, rfl, hr, hT⟩))
  all_goals try (go_ret; exact ⟨_, rfl, by omega, hb.trans (hT.out hg)⟩)
  · obtain ⟨n, hn⟩ : ∃ n : Nat, 12000 + x = (n : Int) := ⟨(12000 + x).toNat, by omega⟩
    have hn2 : n ≤ 12001 := by omega
    rw [hn]
    have hmk := make_bytes n (by omega) w3
    have hcv := conv_zeros n w3
    rw [hmk]
    go_simp
    go_wp2
    go_ret
    exact ⟨_, rfl, by rw [S_size, List.length_replicate]; omega, (hb.trans (hT.out hg)).alloc (hb.trans (hT.out hg)).size _⟩
end Go.Proofs.YtlbllonpodckgaaGreatDoor
