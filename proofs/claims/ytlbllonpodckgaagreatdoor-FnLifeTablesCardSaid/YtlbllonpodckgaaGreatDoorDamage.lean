/- Draws of damaged texts: whatever is drawn, it is a text hardly longer, and nothing but the source turns. -/
import Derived.Test.YtlbllonpodckgaaGreatDoorDrawA
import Derived.Deep.RegionHeld3
namespace Go.Proofs.YtlbllonpodckgaaGreatDoor
open Go.RowKit Go.BigFrame

def DmgE (K : Code) (g : Nat) (w0 : World) (s : ByteArray) (w' : World) (e : Ending) : Prop := ∃ r : ByteArray, e = .returned (.string r) ∧ r.size ≤ s.size + 1 ∧ Nx K g w0 w'
def eightC : Array Value := #[.string ⟨#[48]⟩, .string ⟨#[49]⟩, .string ⟨#[32]⟩, .string ⟨#[45]⟩, .string ⟨#[44]⟩, .string ⟨#[46]⟩, .string ⟨#[10]⟩, .string ⟨#[97]⟩]
theorem eight_at {y : Nat} (h : y < 8) : ∃ x : ByteArray, eightC[y]? = some (.string x) ∧ x.size = 1 := by
  match y, h with
  | 0, _ => exact ⟨_, rfl, rfl⟩
  | 1, _ => exact ⟨_, rfl, rfl⟩
  | 2, _ => exact ⟨_, rfl, rfl⟩
  | 3, _ => exact ⟨_, rfl, rfl⟩
  | 4, _ => exact ⟨_, rfl, rfl⟩
  | 5, _ => exact ⟨_, rfl, rfl⟩
  | 6, _ => exact ⟨_, rfl, rfl⟩
  | 7, _ => exact ⟨_, rfl, rfl⟩
theorem wpAnyH_strongD {P : Program} {md : Region.Mode} {ops : Array Oper} {Q : Exit → Act → World → Prop} {S S2 : World → Prop} (h12 : ∀ w, S2 w → S w) : ∀ (fuel : Nat) (listed : Array Bool) (a : Act) (w : World), wpAnyH P md ops Q S2 fuel listed a w → wpAnyH P md ops Q S fuel listed a w
  | 0, _, _, _, h => h
  | fuel + 1, _, _, _, h => ⟨h.1, fun i hi => wpOp_mono (fun a' w' h' => ⟨h12 _ h'.1, wpAnyH_strongD h12 fuel _ a' w' h'.2⟩) (h.2 i hi)⟩
theorem size3 (a b c : ByteArray) : (a ++ b ++ c).size = a.size + b.size + c.size := by rw [ByteArray.size_append, ByteArray.size_append]
set_option maxHeartbeats 4000000 in
set_option maxRecDepth 100000 in
theorem spec_l01Damage_any (K : Code) (hK : K.Ok) (g : Nat) (w0 : World) (s : ByteArray) (hs : s.size ≤ 1000000) (w : World) (hT : Nx K g w0 w) :
    Calls Tryz.prog 75 #[.pointer (some ⟨g, 0, none⟩), .string s] w fun e w' => DmgE K g w0 s w' e := by
  go_enter Tryz.func75, Tryz.ntmps75
  go_wp2_with fail
  refine (spec_l01Next_any K hK g _ _ _ hT).mono ?_
  rintro e w3 ⟨x, rfl, ⟨hx0, hx1⟩, hT1⟩
  obtain ⟨k, rfl⟩ := Int.eq_ofNat_of_zero_le hx0
  have hks : k ≤ s.size := by omega
  clear hT hx0 hx1
  go_wp2_with fail
  refine (spec_l01Next_any K hK g _ _ _ hT1).mono ?_
  rintro e w4 ⟨y, rfl, ⟨hy0, hy1⟩, hT⟩
  clear hT1
  have hz1 : (s.extract 0 k).size = k := by rw [ByteArray.size_extract]; omega
  have hz2 : (s.extract k s.size).size = s.size - k := by rw [ByteArray.size_extract]; omega
  have HT := Lib.hid hT; clear hT
  rcases (show y = 0 ∨ y = 1 ∨ y = 2 ∨ (y ≠ 0 ∧ y ≠ 1 ∧ y ≠ 2) by omega) with rfl | rfl | rfl | ⟨y0, y1, y2⟩
  · go_wp2
    go_ret
    exact ⟨_, rfl, by omega, HT.out⟩
  · have hg4 := HT.out.src.lt
    have u1 : ¬ 9223372036854775807 < (s.extract 0 k).size + 1 := by omega
    have u2 : ¬ 9223372036854775807 < (s.extract 0 k).size + 1 + (s.extract k s.size).size := by omega
    go_wp2
    -- BY HAND
    refine wp_region_held_drew (S := fun w' => Nx K g w0 w') (by kernel_rfl) (HT.out.drew) (fun hHeld => ?_)
    refine wpAnyH_take (i := 0) (oi := _) (v := .string s) rfl (by kernel_rfl) (by kernel_rfl) (by kernel_rfl) (fun _ _ _ h => h) (Or.inl ⟨by rfl, ?_⟩) hHeld ?_
    · intro u hSu
      go_simp
      all_goals first | omega | (intro hh; omega)
    simp only [Act.put, List.setIfInBounds_toArray]
    refine wpAnyH_take (i := 1) (oi := _) (v := .int .i64 (k : Int)) rfl (by kernel_rfl) (by kernel_rfl) (by kernel_rfl) (fun _ _ _ h => h) (Or.inl ⟨by rfl, ?_⟩) hHeld ?_
    · intro u hSu
      go_simp
      all_goals first | omega | (intro hh; omega)
    simp only [Act.put]
    refine wpAnyH_take (i := 2) (oi := _) (v := .string (s.extract 0 k)) rfl (by kernel_rfl) (by kernel_rfl) (by kernel_rfl) (fun _ _ _ h => h) (Or.inl ⟨by rfl, ?_⟩) hHeld ?_
    · intro u hSu
      go_simp
      all_goals first | omega | (intro hh; omega)
    simp only [Act.put]
    refine wpAnyH_take (i := 4) (oi := _) (v := .pointer (some ⟨g, 0, none⟩)) rfl (by kernel_rfl) (by kernel_rfl) (by kernel_rfl) (fun _ _ _ h => h) (Or.inl ⟨by rfl, ?_⟩) hHeld ?_
    · intro u hSu
      go_simp
      all_goals first | omega | (intro hh; omega)
    simp only [Act.put]
    refine wpAnyH_take (i := 9) (oi := _) (v := .string s) rfl (by kernel_rfl) (by kernel_rfl) (by kernel_rfl) (fun _ _ _ h => h) (Or.inl ⟨by rfl, ?_⟩) hHeld ?_
    · intro u hSu
      go_simp
      all_goals first | omega | (intro hh; omega)
    simp only [Act.put]
    refine wpAnyH_take (i := 10) (oi := _) (v := .int .i64 (k : Int)) rfl (by kernel_rfl) (by kernel_rfl) (by kernel_rfl) (fun _ _ _ h => h) (Or.inl ⟨by rfl, ?_⟩) hHeld ?_
    · intro u hSu
      go_simp
      all_goals first | omega | (intro hh; omega)
    simp only [Act.put]
    refine wpAnyH_take (i := 11) (oi := _) (v := .string (s.extract k s.size)) rfl (by kernel_rfl) (by kernel_rfl) (by kernel_rfl) (fun _ _ _ h => h) (Or.inl ⟨by rfl, ?_⟩) hHeld ?_
    · intro u hSu
      go_simp
      all_goals first | omega | (intro hh; omega)
    simp only [Act.put]
    refine wpAnyH_ready (rs := [3, 5]) (by kernel_rfl) (by simp) ?_
    refine AllReadyH.cons (o := _) rfl (fun K1 hK1 => ?_) (AllReadyH.cons (o := _) rfl (fun K1 hK1 => ?_) AllReadyH.nil)
    · go_simp
      refine hK1.out _ _ ?_ (fun hHeld => ?_)
      · exact HT.out.drew.alloc _
      clear hK1 K1
      refine wpAnyH_ready (rs := [5]) (by kernel_rfl) (by simp) ?_
      refine AllReadyH.cons (o := _) rfl (fun K1 hK1 => ?_) AllReadyH.nil
      go_simp
      have hTc := HT.out.drew.alloc (.cells eightC 9)
      refine (spec_l01Next_any K hK g _ _ _ (Nx.refl hTc.src)).mono ?_
      rintro e w6 ⟨z, rfl, ⟨hz0, hz1⟩, hN⟩
      obtain ⟨y, rfl⟩ := Int.eq_ofNat_of_zero_le hz0
      have hy8 : y < 8 := by omega
      obtain ⟨x1, hx1, hxs⟩ := eight_at hy8
      have HT6 := Lib.hid (hTc.trans hN)
      rw [← hxs] at u1 u2
      have hcA : w6.cell? ⟨w4.heap.size, y, none⟩ = some (.string x1) := by
        have hq := (Blk.new w4.drew 9 eightC).nx hN (Nat.ne_of_gt hg4)
        have hq2 := hq.cell y
        rw [hx1] at hq2
        exact hq2
      refine hK1.out _ _ ?_ (fun hHeld => ?_)
      · exact HT6.out
      clear hK1 K1
      refine wpAnyH_strongD (S2 := fun w' => Nx K g w0 w' ∧ w'.cell? ⟨w4.heap.size, y, none⟩ = some (.string x1)) (fun _ h => h.1) _ _ _ _ ?_
      replace hHeld := (show (fun w' => Nx K g w0 w' ∧ w'.cell? ⟨w4.heap.size, y, none⟩ = some (.string x1)) _ from ⟨HT6.out, hcA⟩)
      refine wpAnyH_take (i := 6) (oi := _) (v := .pointer (some ⟨w4.heap.size, y, none⟩)) rfl (by kernel_rfl) (by kernel_rfl) (by kernel_rfl) (fun _ _ _ h => h) (Or.inl ⟨by rfl, ?_⟩) hHeld ?_
      · intro u hSu
        go_simp
        all_goals first | omega | (intro hh; omega)
      simp only [Act.put, List.setIfInBounds_toArray]
      refine wpAnyH_take (i := 7) (oi := _) (v := .string x1) rfl (by kernel_rfl) (by kernel_rfl) (by kernel_rfl) (fun _ _ _ h => h) (Or.inl ⟨by rfl, ?_⟩) hHeld ?_
      · intro u hSu
        go_simp
        all_goals first | omega | (intro hh; omega)
      simp only [Act.put]
      refine wpAnyH_take (i := 8) (oi := _) (v := .string (s.extract 0 k ++ x1)) rfl (by kernel_rfl) (by kernel_rfl) (by kernel_rfl) (fun _ _ _ h => h) (Or.inl ⟨by rfl, ?_⟩) hHeld ?_
      · intro u hSu
        go_simp
        all_goals first | omega | (intro hh; omega)
      simp only [Act.put]
      refine wpAnyH_take (i := 12) (oi := _) (v := .string (s.extract 0 k ++ x1 ++ s.extract k s.size)) rfl (by kernel_rfl) (by kernel_rfl) (by kernel_rfl) (fun _ _ _ h => h) (Or.inl ⟨by rfl, ?_⟩) hHeld ?_
      · intro u hSu
        go_simp
        all_goals first | omega | (intro hh; omega)
      simp only [Act.put]
      refine wpAnyH_ready (rs := [13]) (by kernel_rfl) (by simp) ?_
      refine AllReadyH.cons (o := _) rfl (fun K2 hK2 => ?_) AllReadyH.nil
      go_simp
      refine hK2.out _ _ ?_ (fun _ => ?_)
      · exact ⟨HT6.out, hcA⟩
      clear hK2 K2
      refine wpAnyH_done (by kernel_rfl) ?_ _
      go_wp2
      go_ret
      exact ⟨_, rfl, by rw [size3]; omega, HT6.out⟩
    · skip
      go_simp
      have hTc := HT.out.drew
      refine (spec_l01Next_any K hK g _ _ _ (Nx.refl hTc.src)).mono ?_
      rintro e w6 ⟨z, rfl, ⟨hz0, hz1⟩, hN⟩
      obtain ⟨y, rfl⟩ := Int.eq_ofNat_of_zero_le hz0
      have hy8 : y < 8 := by omega
      obtain ⟨x1, hx1, hxs⟩ := eight_at hy8
      have HT6 := Lib.hid (hTc.trans hN)
      rw [← hxs] at u1 u2
      refine hK1.out _ _ ?_ (fun hHeld => ?_)
      · exact HT6.out
      clear hK1 K1
      refine wpAnyH_ready (rs := [3]) (by kernel_rfl) (by simp) ?_
      refine AllReadyH.cons (o := _) rfl (fun K1 hK1 => ?_) AllReadyH.nil
      go_simp
      have HT7 := Lib.hid (HT6.out.alloc (.cells eightC 9))
      have hcA : (w6.alloc (.cells eightC 9)).cell? ⟨w6.heap.size, y, none⟩ = some (.string x1) := by rw [(Blk.new w6 _ _).cell, hx1]
      refine hK1.out _ _ ?_ (fun hHeld => ?_)
      · exact HT7.out
      clear hK1 K1
      refine wpAnyH_strongD (S2 := fun w' => Nx K g w0 w' ∧ w'.cell? ⟨w6.heap.size, y, none⟩ = some (.string x1)) (fun _ h => h.1) _ _ _ _ ?_
      replace hHeld := (show (fun w' => Nx K g w0 w' ∧ w'.cell? ⟨w6.heap.size, y, none⟩ = some (.string x1)) _ from ⟨HT7.out, hcA⟩)
      refine wpAnyH_take (i := 6) (oi := _) (v := .pointer (some ⟨w6.heap.size, y, none⟩)) rfl (by kernel_rfl) (by kernel_rfl) (by kernel_rfl) (fun _ _ _ h => h) (Or.inl ⟨by rfl, ?_⟩) hHeld ?_
      · intro u hSu
        go_simp
        all_goals first | omega | (intro hh; omega)
      simp only [Act.put, List.setIfInBounds_toArray]
      refine wpAnyH_take (i := 7) (oi := _) (v := .string x1) rfl (by kernel_rfl) (by kernel_rfl) (by kernel_rfl) (fun _ _ _ h => h) (Or.inl ⟨by rfl, ?_⟩) hHeld ?_
      · intro u hSu
        go_simp
        all_goals first | omega | (intro hh; omega)
      simp only [Act.put]
      refine wpAnyH_take (i := 8) (oi := _) (v := .string (s.extract 0 k ++ x1)) rfl (by kernel_rfl) (by kernel_rfl) (by kernel_rfl) (fun _ _ _ h => h) (Or.inl ⟨by rfl, ?_⟩) hHeld ?_
      · intro u hSu
        go_simp
        all_goals first | omega | (intro hh; omega)
      simp only [Act.put]
      refine wpAnyH_take (i := 12) (oi := _) (v := .string (s.extract 0 k ++ x1 ++ s.extract k s.size)) rfl (by kernel_rfl) (by kernel_rfl) (by kernel_rfl) (fun _ _ _ h => h) (Or.inl ⟨by rfl, ?_⟩) hHeld ?_
      · intro u hSu
        go_simp
        all_goals first | omega | (intro hh; omega)
      simp only [Act.put]
      refine wpAnyH_ready (rs := [13]) (by kernel_rfl) (by simp) ?_
      refine AllReadyH.cons (o := _) rfl (fun K2 hK2 => ?_) AllReadyH.nil
      go_simp
      refine hK2.out _ _ ?_ (fun _ => ?_)
      · exact ⟨HT7.out, hcA⟩
      clear hK2 K2
      refine wpAnyH_done (by kernel_rfl) ?_ _
      go_wp2
      go_ret
      exact ⟨_, rfl, by rw [size3]; omega, HT7.out⟩
  · by_cases hk2 : k < s.size
    · have hz3 : (s.extract (k + 1) s.size).size = s.size - (k + 1) := by rw [ByteArray.size_extract]; omega
      have hki : (k : Int) < (s.size : Int) := by omega
      go_wp2
      go_region
      go_wp2
      go_ret
      exact ⟨_, rfl, by rw [ByteArray.size_append]; omega, HT.out.drew⟩
    · have hki : ¬ (k : Int) < (s.size : Int) := by omega
      go_wp2
      go_ret
      exact ⟨_, rfl, by omega, HT.out⟩
  · go_wp2
    go_ret
    exact ⟨_, rfl, by omega, HT.out⟩
end Go.Proofs.YtlbllonpodckgaaGreatDoor
