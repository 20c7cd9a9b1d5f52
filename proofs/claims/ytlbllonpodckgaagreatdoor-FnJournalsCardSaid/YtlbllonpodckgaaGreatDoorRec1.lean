/- A ledger is recovered from its journal: the program. -/
import Derived.Test.YtlbllonpodckgaaGreatDoorRecP
import Derived.Test.YtlbllonpodckgaaGreatDoorJour
import Derived.Test.YtlbllonpodckgaaGreatDoorRead3
import Derived.Test.YtlbllonpodckgaaGreatDoorStrong
namespace Go.Proofs.YtlbllonpodckgaaGreatDoor
open Go.RowKit Go.BigFrame

theorem splitCells {w : World} {ws : List (List UInt8)} {k : Nat} {x : List UInt8} (h : ws[k]? = some x) :
    (w.alloc (.cells ((ws.map S).map Value.string).toArray 9)).cell? ⟨w.heap.size, k, none⟩ = some (.string (S x)) := by
  rw [(Blk.new w _ _).cell, List.getElem?_toArray, List.getElem?_map, List.getElem?_map, h]; rfl
theorem dropLast_get {α : Type} {ws : List α} {k : Nat} {x : α} (h : ws.dropLast[k]? = some x) : ws[k]? = some x := by
  have hk := (List.getElem?_eq_some_iff.1 h).1
  rw [List.getElem?_dropLast] at h
  rw [List.length_dropLast] at hk
  rw [if_pos hk] at h
  exact h
theorem entryB_fits {x : Entry} (h : entryB x = true) : x.fits := by
  obtain ⟨h1, h2, h3, h4⟩ := entry_ok h
  refine ⟨?_, ?_, ?_, ?_⟩ <;> (unfold In64; omega)
theorem ledger_fits {xs : List Entry} (h : ledgerB xs = true) : ∀ x ∈ xs, x.fits := fun _ hx => entryB_fits (ledger_entry h hx)
/-- what recovering a ledger gives -/
def RecE (s : ByteArray) (w w' : World) (e : Ending) : Prop := ∃ (A : Option Addr) (n c : Nat), e = .returned (.tuple #[.slice A n c, .int .i64 (recP s.data.toList).2]) ∧ Res w.heap.size w' 78 4 A n c (entryRows (recP s.data.toList).1) ∧ Below w.heap.size w w'

set_option maxHeartbeats 8000000 in
set_option maxRecDepth 100000 in
theorem impl_RecoverLedger_any (s : ByteArray) (hs : s.size ≤ 1048576) (w : World) (hE : Env w) (hN : Names w) :
    Calls Tryz.prog 9 #[.string s] w fun e w' => RecE s w w' e := by
  have HLL := Lib.hid (show s.data.toList.length = s.size from rfl)
  by_cases hbig : 12000 < s.size
  · have hbi : (12000 : Int) < (s.size : Int) := by omega
    have Q := Lib.hid (show recP s.data.toList = ([], 3) by unfold recP; rw [if_pos (by rw [HLL.out]; exact hbig)])
    clear hE hN
    go_enter Tryz.func9, Tryz.ntmps9
    go_wp2
    go_ret2
    exact ⟨none, 0, 0, by rw [Q.out]; rfl, by rw [Q.out]; exact Res.nil_, Below.refl _ _⟩
  have hbi : ¬ (12000 : Int) < (s.size : Int) := by omega
  have Q := Lib.hid (show recP s.data.toList = (recL (cutL 10 s.data.toList).dropLast [] 0, 0) by unfold recP; rw [if_neg (by rw [HLL.out]; exact hbig)])
  have HN := Lib.hid hN; clear hN
  have HE := Lib.hid hE; clear hE
  have HR0 := Lib.hid (show Res w.heap.size (w.alloc (.cells #[] 78)) 78 4 (some ⟨w.heap.size, 0, none⟩) 0 0 (entryRows []) from Res.zero w w.heap.size 78 4 (Nat.le_refl _))
  have HW0 := Lib.hid ((Below.refl w.heap.size w).alloc (Nat.le_refl _) (.cells #[] 78))
  have hz0 : (w.alloc (.cells #[] 78)).heap.size = w.heap.size + 1 := by simp
  go_enter Tryz.func9, Tryz.ntmps9
  go_wp2_with fail
  generalize w.alloc _ = W at HW0 HR0 hz0 ⊢
  obtain ⟨mx, hmx⟩ := (HE.out.past HW0.out).mx
  refine (Tryz.strings_Split s ⟨#[10]⟩ mx W (by omega) hmx (by show 1 ≤ 1; omega)).mono ?_
  rw [splitB_cut, countB_one]
  rintro e w1 ⟨rfl, rfl⟩
  clear hmx
  have HWL := Lib.hid (cutL_le 10 s.data.toList)
  have HNE := Lib.hid (cutL_ne 10 s.data.toList)
  have HCL := Lib.hid (show (cutL 10 s.data.toList).length ≤ 12001 by rw [cutL_len]; have := List.count_le_length (a := (10 : UInt8)) (l := s.data.toList); have := HLL.out; omega)
  generalize cutL 10 s.data.toList = ws at HWL HNE HCL Q ⊢
  obtain ⟨n, hn⟩ : ∃ n, ws.length = n + 1 := ⟨ws.length - 1, by have := List.length_pos_iff.2 HNE.out; omega⟩
  have hn2 : n ≤ 12000 := by have := HCL.out; omega
  have HLN := Lib.hid (show ws.dropLast.length = n by rw [List.length_dropLast, hn]; rfl)
  have HB1 := Lib.hid (HW0.out.alloc (by omega) (.cells ((ws.map S).map Value.string).toArray 9))
  have HR1 := Lib.hid (HR0.out.past ((Below.refl W.heap.size W).alloc (Nat.le_refl _) (.cells ((ws.map S).map Value.string).toArray 9)))
  have HWC := Lib.hid (fun k x (h : ws.dropLast[k]? = some x) => splitCells (w := W) (dropLast_get h))
  have HLE := Lib.hid (fun k (x : List UInt8) (h : ws.dropLast[k]? = some x) => (show x.length ≤ 12000 by
    have h1 := HWL.out x (List.mem_of_getElem? (dropLast_get h))
    have h2 := HLL.out
    omega))
  rw [hn]
  have hz1 : (W.alloc (.cells ((ws.map S).map Value.string).toArray 9)).heap.size = w.heap.size + 2 := by simp [hz0]
  rw [hz0] at HWC ⊢
  generalize W.alloc (.cells ((ws.map S).map Value.string).toArray 9) = W1 at HB1 HR1 HWC hz1 ⊢
  generalize ws.dropLast = ls at Q HLN HWC HLE
  clear HR0 HW0 HWL HNE HCL hn hz0
  go_wp2
  go_loopw [4, 5, 25] (fun o c i wr => ∃ (k q cap : Nat) (A : Option Addr) (out : List Entry) (c0 : Int), k ≤ n ∧ i = .int .i64 k ∧ o = .slice A q cap ∧ c = .int .i64 c0 ∧ out.length = q ∧ q ≤ 150 ∧ (0 ≤ c0 ∧ c0 < 99991) ∧ Hid (Res w.heap.size wr 78 4 A q cap (entryRows out)) ∧ Hid (ledgerB out = true) ∧ Hid (recL ls [] 0 = recL (ls.drop k) out c0) ∧ Hid (Below W1.heap.size W1 wr)) (fun _ _ i _ => n - (intOf i).toNat)
  case atStart => exact ⟨0, 0, 0, _, [], 0, by omega, rfl, rfl, rfl, rfl, by omega, by omega, HR1, Lib.hid ledger_nil, Lib.hid rfl, Lib.hid (Below.refl _ _)⟩
  case round =>
    obtain ⟨k, q, cap, A, out, c0, hk, rfl, rfl, rfl, hq, hq2, ⟨hc0, hc1⟩, HR, HG, HC, HB⟩ := hrel
    clear HR1
    by_cases hlt : k < n
    · obtain ⟨l, hl⟩ := get_of_lt (xs := ls) (k := k) (by rw [HLN.out]; exact hlt)
      have hki : (k : Int) < (n : Int) := by omega
      have cl : wr.cell? ⟨w.heap.size + 1, k, none⟩ = some (.string (S l)) := (HB.out.cell (show w.heap.size + 1 < W1.heap.size by omega)).trans (HWC.out k l hl)
      obtain ⟨sl, hsl⟩ : ∃ sl, S l = sl := ⟨_, rfl⟩
      rw [hsl] at cl
      have HSL := Lib.hid hsl
      have Hl := Lib.hid hl
      have hlz : sl.size ≤ 100000 := by have := HLE.out k l hl; rw [← hsl, S_size]; omega
      have HBW := Lib.hid (HB1.out.trans (HB.out.mono HB1.out.size))
      clear hsl hl
      go_wp2_with fail
      refine (impl_readEntry_any sl hlz wr (HE.out.past HBW.out) (HN.out.past HBW.out)).mono ?_
      rintro e w2 ⟨x, b, rfl, hxf, hxl, hb⟩
      have HXF := Lib.hid hxf
      have HXL := Lib.hid (fun e (he : NextE out c0 l e) => hxl e (by rw [← HSL.out]; exact nextE_line he))
      have HBV := Lib.hid ((HBW.out.trans (hb.mono HBW.out.size)).alloc (HBW.out.trans (hb.mono HBW.out.size)).size (.cells #[.int .i64 x.month, .int .i64 x.debit, .int .i64 x.credit, .int .i64 x.amount] 78))
      have HBX := Lib.hid ((HB.out.trans (hb.mono HB.out.size)).alloc (HB.out.trans (hb.mono HB.out.size)).size (.cells #[.int .i64 x.month, .int .i64 x.debit, .int .i64 x.credit, .int .i64 x.amount] 78))
      have HRV := Lib.hid (HR.out.past (hb.alloc hb.size (.cells #[.int .i64 x.month, .int .i64 x.debit, .int .i64 x.credit, .int .i64 x.amount] 78)))
      have HBK := Lib.hid (Blk.new w2 78 #[.int .i64 x.month, .int .i64 x.debit, .int .i64 x.credit, .int .i64 x.amount])
      clear hxf hxl hb
      rw [show x.row.toArray = #[.int .i64 x.month, .int .i64 x.debit, .int .i64 x.credit, .int .i64 x.amount] from rfl]
      go_wp2_with fail
      generalize w2.alloc (.cells #[.int .i64 x.month, .int .i64 x.debit, .int .i64 x.credit, .int .i64 x.amount] 78) = W3 at HBV HBX HRV HBK ⊢
      generalize w2.heap.size = G at HBK ⊢
      refine (impl_BookEntry_any A q cap out x W3 hq (by omega) HRV.out.rd (ledger_fits HG.out) HXF.out).mono ?_
      rintro e w4 ⟨A4, n4, c4, rfl, hR4, hb4⟩
      have HB4 := Lib.hid (HBV.out.trans (hb4.mono HBV.out.size))
      have HX4 := Lib.hid (HBX.out.trans (hb4.mono HBX.out.size))
      have HK4 := Lib.hid (HBK.out.below' hb4)
      have HR4 := Lib.hid hR4
      have HRO := Lib.hid (HRV.out.past hb4)
      have hG : w.heap.size ≤ W3.heap.size := HBV.out.size
      have HFIN := Lib.hid (fun (h : ∀ e, ¬ NextE out c0 l e) (wx : World) (hb : Below w4.heap.size w4 wx) => (show RecE s w wx (.returned (.tuple #[.slice A q cap, .int .i64 0])) from
        ⟨A, q, cap, by rw [Q.out], by rw [Q.out]; show Res _ _ _ _ _ _ _ (entryRows (recL ls [] 0)); rw [HC.out.trans (recL_stop Hl.out h)]; exact HRO.out.past hb, HB4.out.trans (hb.mono HB4.out.size)⟩))
      clear hR4 hb4 HBV HBX HRV HBK
      obtain ⟨cd, hcd⟩ : ∃ cd, (bookP out x).2 = cd := ⟨_, rfl⟩
      rw [hcd]
      have HCD := Lib.hid hcd
      clear hcd
      have HDR := Lib.hid ((Below.refl w4.heap.size w4).drew)
      cases b
      · have HNO := Lib.hid (show ∀ e, ¬ NextE out c0 l e from fun e he => by have := (HXL.out e he).2; cases this)
        go_wp2_with fail
        refine wp_region_held_drew (S := fun _ => True) (by kernel_rfl) (trivial) (fun hHeld => ?_)
        refine wpAnyH_takeN 40 (i := 0) (oi := _) (v := .bool false) rfl (by kernel_rfl) (by kernel_rfl) (by kernel_rfl) (fun _ _ _ h => h) (Or.inl ⟨by kernel_rfl, ?_⟩) hHeld (by rfl) ?_
        · intro u hSu
          go_simp
          all_goals first | omega | (intro hh; omega)
        simp only [List.setIfInBounds_toArray, List.set_cons_succ, List.set_cons_zero]
        refine wpAnyH_takeN 41 (i := 1) (oi := _) (v := .bool true) rfl (by kernel_rfl) (by kernel_rfl) (by kernel_rfl) (fun _ _ _ h => h) (Or.inl ⟨by kernel_rfl, ?_⟩) hHeld (by rfl) ?_
        · intro u hSu
          go_simp
          all_goals first | omega | (intro hh; omega)
        simp only [List.setIfInBounds_toArray, List.set_cons_succ, List.set_cons_zero]
        refine wpAnyH_takeN 42 (i := 2) (oi := _) (v := .bool true) rfl (by kernel_rfl) (by kernel_rfl) (by kernel_rfl) (fun _ _ _ h => h) (Or.inl ⟨by kernel_rfl, ?_⟩) hHeld (by rfl) ?_
        · intro u hSu
          go_simp
          all_goals first | omega | (intro hh; omega)
        simp only [List.setIfInBounds_toArray, List.set_cons_succ, List.set_cons_zero]
        refine wpAnyH_takeN 43 (i := 3) (oi := _) (v := undef) rfl (by kernel_rfl) (by kernel_rfl) (by kernel_rfl) (fun _ _ _ h => h) (Or.inr ⟨by kernel_rfl, rfl⟩) hHeld (by rfl) ?_
        simp only [List.setIfInBounds_toArray, List.set_cons_succ, List.set_cons_zero]
        refine wpAnyH_takeN 44 (i := 4) (oi := _) (v := undef) rfl (by kernel_rfl) (by kernel_rfl) (by kernel_rfl) (fun _ _ _ h => h) (Or.inr ⟨by kernel_rfl, rfl⟩) hHeld (by rfl) ?_
        simp only [List.setIfInBounds_toArray, List.set_cons_succ, List.set_cons_zero]
        refine wpAnyH_takeN 45 (i := 5) (oi := _) (v := .bool true) rfl (by kernel_rfl) (by kernel_rfl) (by kernel_rfl) (fun _ _ _ h => h) (Or.inl ⟨by kernel_rfl, ?_⟩) hHeld (by rfl) ?_
        · intro u hSu
          go_simp
          all_goals first | omega | (intro hh; omega)
        simp only [List.setIfInBounds_toArray, List.set_cons_succ, List.set_cons_zero]
        refine wpAnyH_takeN 46 (i := 6) (oi := _) (v := .bool true) rfl (by kernel_rfl) (by kernel_rfl) (by kernel_rfl) (fun _ _ _ h => h) (Or.inl ⟨by kernel_rfl, ?_⟩) hHeld (by rfl) ?_
        · intro u hSu
          go_simp
          all_goals first | omega | (intro hh; omega)
        simp only [List.setIfInBounds_toArray, List.set_cons_succ, List.set_cons_zero]
        refine wpAnyH_takeN 47 (i := 7) (oi := _) (v := undef) rfl (by kernel_rfl) (by kernel_rfl) (by kernel_rfl) (fun _ _ _ h => h) (Or.inr ⟨by kernel_rfl, rfl⟩) hHeld (by rfl) ?_
        simp only [List.setIfInBounds_toArray, List.set_cons_succ, List.set_cons_zero]
        refine wpAnyH_takeN 48 (i := 8) (oi := _) (v := undef) rfl (by kernel_rfl) (by kernel_rfl) (by kernel_rfl) (fun _ _ _ h => h) (Or.inr ⟨by kernel_rfl, rfl⟩) hHeld (by rfl) ?_
        simp only [List.setIfInBounds_toArray, List.set_cons_succ, List.set_cons_zero]
        refine wpAnyH_takeN 49 (i := 9) (oi := _) (v := undef) rfl (by kernel_rfl) (by kernel_rfl) (by kernel_rfl) (fun _ _ _ h => h) (Or.inr ⟨by kernel_rfl, rfl⟩) hHeld (by rfl) ?_
        simp only [List.setIfInBounds_toArray, List.set_cons_succ, List.set_cons_zero]
        refine wpAnyH_takeN 50 (i := 10) (oi := _) (v := undef) rfl (by kernel_rfl) (by kernel_rfl) (by kernel_rfl) (fun _ _ _ h => h) (Or.inr ⟨by kernel_rfl, rfl⟩) hHeld (by rfl) ?_
        simp only [List.setIfInBounds_toArray, List.set_cons_succ, List.set_cons_zero]
        refine wpAnyH_takeN 51 (i := 11) (oi := _) (v := undef) rfl (by kernel_rfl) (by kernel_rfl) (by kernel_rfl) (fun _ _ _ h => h) (Or.inr ⟨by kernel_rfl, rfl⟩) hHeld (by rfl) ?_
        simp only [List.setIfInBounds_toArray, List.set_cons_succ, List.set_cons_zero]
        refine wpAnyH_takeN 52 (i := 12) (oi := _) (v := undef) rfl (by kernel_rfl) (by kernel_rfl) (by kernel_rfl) (fun _ _ _ h => h) (Or.inr ⟨by kernel_rfl, rfl⟩) hHeld (by rfl) ?_
        simp only [List.setIfInBounds_toArray, List.set_cons_succ, List.set_cons_zero]
        refine wpAnyH_takeN 53 (i := 13) (oi := _) (v := undef) rfl (by kernel_rfl) (by kernel_rfl) (by kernel_rfl) (fun _ _ _ h => h) (Or.inr ⟨by kernel_rfl, rfl⟩) hHeld (by rfl) ?_
        simp only [List.setIfInBounds_toArray, List.set_cons_succ, List.set_cons_zero]
        refine wpAnyH_takeN 54 (i := 14) (oi := _) (v := .bool true) rfl (by kernel_rfl) (by kernel_rfl) (by kernel_rfl) (fun _ _ _ h => h) (Or.inl ⟨by kernel_rfl, ?_⟩) hHeld (by rfl) ?_
        · intro u hSu
          go_simp
          all_goals first | omega | (intro hh; omega)
        simp only [List.setIfInBounds_toArray, List.set_cons_succ, List.set_cons_zero]
        refine wpAnyH_done (by kernel_rfl) ?_ _
        go_wp2
        go_ret2
        exact HFIN.out HNO.out _ HDR.out
      by_cases hcz : ¬ cd = 0
      · have HNO := Lib.hid (show ∀ e, ¬ NextE out c0 l e from fun e he => by
          have h1 := (HXL.out e he).1
          have h2 := book_next HG.out he.1 he.2.1 he.2.2.1
          rw [← h1] at h2
          have h3 := HCD.out
          rw [h2] at h3
          exact hcz h3.symm)
        have hcb : (cd == 0) = false := by simpa using hcz
        have hcn : (cd != 0) = true := by simpa using hcz
        go_wp2_with fail
        refine wp_region_held_drew (S := fun _ => True) (by kernel_rfl) (trivial) (fun hHeld => ?_)
        refine wpAnyH_takeN 40 (i := 0) (oi := _) (v := .bool true) rfl (by kernel_rfl) (by kernel_rfl) (by kernel_rfl) (fun _ _ _ h => h) (Or.inl ⟨by kernel_rfl, ?_⟩) hHeld (by rfl) ?_
        · intro u hSu
          go_simp
          all_goals first | omega | (intro hh; omega)
        simp only [List.setIfInBounds_toArray, List.set_cons_succ, List.set_cons_zero]
        refine wpAnyH_takeN 41 (i := 1) (oi := _) (v := .bool false) rfl (by kernel_rfl) (by kernel_rfl) (by kernel_rfl) (fun _ _ _ h => h) (Or.inl ⟨by kernel_rfl, ?_⟩) hHeld (by rfl) ?_
        · intro u hSu
          go_simp
          all_goals first | omega | (intro hh; omega)
        simp only [List.setIfInBounds_toArray, List.set_cons_succ, List.set_cons_zero]
        refine wpAnyH_takeN 42 (i := 2) (oi := _) (v := .bool false) rfl (by kernel_rfl) (by kernel_rfl) (by kernel_rfl) (fun _ _ _ h => h) (Or.inl ⟨by kernel_rfl, ?_⟩) hHeld (by rfl) ?_
        · intro u hSu
          go_simp
          all_goals first | omega | (intro hh; omega)
        simp only [List.setIfInBounds_toArray, List.set_cons_succ, List.set_cons_zero]
        refine wpAnyH_takeN 43 (i := 3) (oi := _) (v := .int .i64 cd) rfl (by kernel_rfl) (by kernel_rfl) (by kernel_rfl) (fun _ _ _ h => h) (Or.inl ⟨by kernel_rfl, ?_⟩) hHeld (by rfl) ?_
        · intro u hSu
          go_simp
          all_goals first | omega | (intro hh; omega)
        simp only [List.setIfInBounds_toArray, List.set_cons_succ, List.set_cons_zero]
        refine wpAnyH_takeN 44 (i := 4) (oi := _) (v := .bool true) rfl (by kernel_rfl) (by kernel_rfl) (by kernel_rfl) (fun _ _ _ h => h) (Or.inl ⟨by kernel_rfl, ?_⟩) hHeld (by rfl) ?_
        · intro u hSu
          go_simp
          all_goals first | omega | (intro hh; omega)
        simp only [List.setIfInBounds_toArray, List.set_cons_succ, List.set_cons_zero]
        refine wpAnyH_takeN 45 (i := 5) (oi := _) (v := .bool true) rfl (by kernel_rfl) (by kernel_rfl) (by kernel_rfl) (fun _ _ _ h => h) (Or.inl ⟨by kernel_rfl, ?_⟩) hHeld (by rfl) ?_
        · intro u hSu
          go_simp
          all_goals first | omega | (intro hh; omega)
        simp only [List.setIfInBounds_toArray, List.set_cons_succ, List.set_cons_zero]
        refine wpAnyH_takeN 46 (i := 6) (oi := _) (v := .bool true) rfl (by kernel_rfl) (by kernel_rfl) (by kernel_rfl) (fun _ _ _ h => h) (Or.inl ⟨by kernel_rfl, ?_⟩) hHeld (by rfl) ?_
        · intro u hSu
          go_simp
          all_goals first | omega | (intro hh; omega)
        simp only [List.setIfInBounds_toArray, List.set_cons_succ, List.set_cons_zero]
        refine wpAnyH_takeN 47 (i := 7) (oi := _) (v := undef) rfl (by kernel_rfl) (by kernel_rfl) (by kernel_rfl) (fun _ _ _ h => h) (Or.inr ⟨by kernel_rfl, rfl⟩) hHeld (by rfl) ?_
        simp only [List.setIfInBounds_toArray, List.set_cons_succ, List.set_cons_zero]
        refine wpAnyH_takeN 48 (i := 8) (oi := _) (v := undef) rfl (by kernel_rfl) (by kernel_rfl) (by kernel_rfl) (fun _ _ _ h => h) (Or.inr ⟨by kernel_rfl, rfl⟩) hHeld (by rfl) ?_
        simp only [List.setIfInBounds_toArray, List.set_cons_succ, List.set_cons_zero]
        refine wpAnyH_takeN 49 (i := 9) (oi := _) (v := undef) rfl (by kernel_rfl) (by kernel_rfl) (by kernel_rfl) (fun _ _ _ h => h) (Or.inr ⟨by kernel_rfl, rfl⟩) hHeld (by rfl) ?_
        simp only [List.setIfInBounds_toArray, List.set_cons_succ, List.set_cons_zero]
        refine wpAnyH_takeN 50 (i := 10) (oi := _) (v := undef) rfl (by kernel_rfl) (by kernel_rfl) (by kernel_rfl) (fun _ _ _ h => h) (Or.inr ⟨by kernel_rfl, rfl⟩) hHeld (by rfl) ?_
        simp only [List.setIfInBounds_toArray, List.set_cons_succ, List.set_cons_zero]
        refine wpAnyH_takeN 51 (i := 11) (oi := _) (v := undef) rfl (by kernel_rfl) (by kernel_rfl) (by kernel_rfl) (fun _ _ _ h => h) (Or.inr ⟨by kernel_rfl, rfl⟩) hHeld (by rfl) ?_
        simp only [List.setIfInBounds_toArray, List.set_cons_succ, List.set_cons_zero]
        refine wpAnyH_takeN 52 (i := 12) (oi := _) (v := undef) rfl (by kernel_rfl) (by kernel_rfl) (by kernel_rfl) (fun _ _ _ h => h) (Or.inr ⟨by kernel_rfl, rfl⟩) hHeld (by rfl) ?_
        simp only [List.setIfInBounds_toArray, List.set_cons_succ, List.set_cons_zero]
        refine wpAnyH_takeN 53 (i := 13) (oi := _) (v := undef) rfl (by kernel_rfl) (by kernel_rfl) (by kernel_rfl) (fun _ _ _ h => h) (Or.inr ⟨by kernel_rfl, rfl⟩) hHeld (by rfl) ?_
        simp only [List.setIfInBounds_toArray, List.set_cons_succ, List.set_cons_zero]
        refine wpAnyH_takeN 54 (i := 14) (oi := _) (v := .bool true) rfl (by kernel_rfl) (by kernel_rfl) (by kernel_rfl) (fun _ _ _ h => h) (Or.inl ⟨by kernel_rfl, ?_⟩) hHeld (by rfl) ?_
        · intro u hSu
          go_simp
          all_goals first | omega | (intro hh; omega)
        simp only [List.setIfInBounds_toArray, List.set_cons_succ, List.set_cons_zero]
        refine wpAnyH_done (by kernel_rfl) ?_ _
        go_wp2
        go_ret2
        exact HFIN.out HNO.out _ HDR.out
      obtain rfl : cd = 0 := by omega
      obtain ⟨_, hbl, hbe, hbt⟩ := book_code HCD.out
      have hbk := book_next HG.out hbl hbe hbt
      rw [hbk] at HR4
      have hxo := Lib.hid (entry_ok hbe)
      have HLG := Lib.hid (ledger_snoc HG.out hbl hbe hbt)
      have hcb2 := chk_bound c0 x
      obtain ⟨c1, hck⟩ : ∃ c1, chkP c0 x = c1 := ⟨_, rfl⟩
      have HCK := Lib.hid (fun X => impl_nextCheck_any c0 x ⟨hc0, hc1⟩ hxo.out X)
      rw [hck] at hcb2 HCK
      have HLI := Lib.hid (fun X (hT : Tab X) (hN : Names X) => impl_entryLine_any x c1 hcb2 hxo.out X hT hN)
      have HNX := Lib.hid (fun (h : S (lineL x c1) = sl) => (show NextE out c0 l x from ⟨hbl, hbe, hbt, by rw [hck]; exact (S_inj (h.trans HSL.out.symm)).symm⟩))
      have HNO := Lib.hid (fun (h : ¬ S (lineL x c1) = sl) => (show ∀ e, ¬ NextE out c0 l e from fun e he => by
        have h1 := (HXL.out e he).1
        have h2 := he.2.2.2
        rw [← h1, hck] at h2
        exact h (by rw [← h2]; exact HSL.out)))
      have HGO := Lib.hid (fun (h : NextE out c0 l x) => (show recL ls [] 0 = recL (ls.drop (k + 1)) (out ++ [x]) c1 from by
        rw [HC.out, ← hck]
        exact recL_go Hl.out h (fun y hy => (HXL.out y hy).1)))
      obtain rfl : n4 = q + 1 := by have h := HR4.out.len; rw [entryRows_length] at h; rw [← h]; simp [hq]
      clear hcz hck hbk hbe hbt
      have HS := Lib.hid (show ∀ w', Below w4.heap.size w4 w' → Below w4.heap.size w4 w' ∧ w'.cell? ⟨G, 0, none⟩ = some (.int .i64 x.month) ∧ w'.cell? ⟨G, 1, none⟩ = some (.int .i64 x.debit) ∧ w'.cell? ⟨G, 2, none⟩ = some (.int .i64 x.credit) ∧ w'.cell? ⟨G, 3, none⟩ = some (.int .i64 x.amount) from fun w' q => by
        have hb := HK4.out.below' q
        exact ⟨q, hb.cell 0, hb.cell 1, hb.cell 2, hb.cell 3⟩)
      have HTX := Lib.hid (fun X (q : Below w4.heap.size w4 X) => ((HE.out.past HB4.out).past q).tab)
      have HNM := Lib.hid (fun X (q : Below w4.heap.size w4 X) => (HN.out.past HB4.out).past q)
      obtain ⟨LN, hLN⟩ : ∃ LN, S (lineL x c1) = LN := ⟨_, rfl⟩
      rw [hLN] at HLI HNX HNO
      clear hLN
      by_cases hq : LN = sl
      · have hql := str_eq hq
        have HNE := HNX.out hq
        have HREC := Lib.hid (HGO.out HNE)
        clear hq HNE HNX HNO HGO
        go_wp2
        go_region_held3 (fun w' => Below w4.heap.size w4 w' ∧ w'.cell? ⟨G, 0, none⟩ = some (.int .i64 x.month) ∧ w'.cell? ⟨G, 1, none⟩ = some (.int .i64 x.debit) ∧ w'.cell? ⟨G, 2, none⟩ = some (.int .i64 x.credit) ∧ w'.cell? ⟨G, 3, none⟩ = some (.int .i64 x.amount)) (first | exact HS.out _ hcc2 | exact HS.out _ hcc1 | exact HS.out _ HDR.out) (first | (go_at_call 66; refine (HCK.out _).mono ?_; rintro e w5 ⟨rfl, hb5⟩; have hcc1 := HDR.out.trans (hb5.mono HDR.out.size)) | (go_at_call 65; refine (HLI.out _ (HTX.out _ hcc1) (HNM.out _ hcc1)).mono ?_; rintro e w6 ⟨rfl, hb6⟩; have hcc2 := hcc1.trans (hb6.mono hcc1.size)))
        all_goals
          have HB6 := Lib.hid hcc2
          have HR6 := Lib.hid (HR4.out.past hcc2)
          obtain ⟨_, k0, k1, k2, k3⟩ := HS.out _ hcc2
          clear hcc1 hcc2
          go_wp2_with fail
          refine (HCK.out _).mono ?_
          rintro e w7 ⟨rfl, hb7⟩
          have HB7 := Lib.hid (HB6.out.trans (hb7.mono HB6.out.size))
          have HR7 := Lib.hid ((HR6.out.past hb7).more hG)
          clear hb7
          go_wp2
          go_roundw
          case rel => exact ⟨k + 1, q + 1, c4, A4, out ++ [x], c1, by omega, by go_num, rfl, rfl, by simp; omega, by omega, hcb2, HR7, HLG, HREC, Lib.hid (HX4.out.trans (HB7.out.mono HX4.out.size))⟩
          case measure => simp [intOf]; omega
      · have hql := str_ne hq
        have HNE := Lib.hid (HNO.out hq)
        clear hq HNX HNO HGO
        go_wp2
        go_region_held3 (fun w' => Below w4.heap.size w4 w' ∧ w'.cell? ⟨G, 0, none⟩ = some (.int .i64 x.month) ∧ w'.cell? ⟨G, 1, none⟩ = some (.int .i64 x.debit) ∧ w'.cell? ⟨G, 2, none⟩ = some (.int .i64 x.credit) ∧ w'.cell? ⟨G, 3, none⟩ = some (.int .i64 x.amount)) (first | exact HS.out _ hcc2 | exact HS.out _ hcc1 | exact HS.out _ HDR.out) (first | (go_at_call 66; refine (HCK.out _).mono ?_; rintro e w5 ⟨rfl, hb5⟩; have hcc1 := HDR.out.trans (hb5.mono HDR.out.size)) | (go_at_call 65; refine (HLI.out _ (HTX.out _ hcc1) (HNM.out _ hcc1)).mono ?_; rintro e w6 ⟨rfl, hb6⟩; have hcc2 := hcc1.trans (hb6.mono hcc1.size)))
        all_goals
          have HB6 := Lib.hid hcc2
          clear hcc1 hcc2
          go_wp2
          go_ret2
          exact HFIN.out HNE.out _ HB6.out
    · have hkn : k = n := by omega
      subst hkn
      have HF := Lib.hid (HC.out.trans (recL_end (by rw [HLN.out]; exact Nat.le_refl _)))
      go_wp2
      go_ret2
      exact ⟨A, q, cap, by rw [Q.out]; rfl, by rw [Q.out]; show Res _ _ _ _ _ _ _ (entryRows (recL ls [] 0)); rw [HF.out]; exact HR.out, HB1.out.trans (HB.out.mono HB1.out.size)⟩
end Go.Proofs.YtlbllonpodckgaaGreatDoor
