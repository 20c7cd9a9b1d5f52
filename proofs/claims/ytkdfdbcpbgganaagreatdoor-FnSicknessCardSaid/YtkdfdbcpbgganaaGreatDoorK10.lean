/- Parts of a proof, one after another: SickT, TabD, Sick3, SickD. No condition. -/
import Derived.Test.YtkdfdbcpbgganaaGreatDoorK2
import Derived.Test.YtkdfdbcpbgganaaGreatDoorK3
import Derived.Test.YtkdfdbcpbgganaaGreatDoorK7
import Derived.Test.YtkdfdbcpbgganaaGreatDoorK9
import Derived.Deep.RegionHeld3
/- Sickness tables are read: ReadSick of the program and of the reference. -/
section
namespace Go.Proofs.YtkdfdbcpbgganaaGreatDoor
open Go.RowKit Go.BigFrame

def SickE (s : ByteArray) (w w' : World) (e : Ending) : Prop := ∃ (f : Int) (A : Option Addr) (n c : Nat) (b : Bool) (xs : List Int), e = .returned (.tuple #[.agg #[.int .i64 f, .slice A n c], .bool b]) ∧ LiesT w' A n xs ∧ n ≤ c ∧ In64 f ∧
  (b = true → sickB f xs = true ∧ s.data.toList = numsL (f :: xs)) ∧ (b = false → f = 0 ∧ xs = []) ∧ (∀ (g : Int) (ys : List Int), sickB g ys = true → s.data.toList = numsL (g :: ys) → f = g ∧ xs = ys ∧ b = true) ∧ Below w.heap.size w w'
theorem sick_words {g : Int} {ys : List Int} (h : sickB g ys = true) {l : List UInt8} (hl : l = numsL (g :: ys)) : cutL 32 l = (g :: ys).map decL ∧ (∀ m ∈ g :: ys, 0 ≤ m ∧ m ≤ 9999999999999) ∧ 2 ≤ (g :: ys).length := by
  obtain ⟨⟨g0, g1⟩, ⟨y0, y1⟩, hy⟩ := sick_bounds h
  refine ⟨by rw [hl]; exact cut_nums _ (by simp), ?_, by rw [List.length_cons]; omega⟩
  intro m hm
  rcases List.mem_cons.1 hm with rfl | hm
  · omega
  · have := hy m hm; omega
theorem nums_sick {l : List UInt8} {ns : List Int} (h : Nums (cutL 32 l) ns (cutL 32 l).length) {g : Int} {ys : List Int} (ht : sickB g ys = true) (hl : l = numsL (g :: ys)) : ns = g :: ys := by
  obtain ⟨h1, h2, _⟩ := sick_words ht hl
  have h3 := h.forth _ h2 h1
  rw [h3, h1, List.length_map, List.take_length]
theorem nums_stext {l : List UInt8} {f : Int} {xs : List Int} (h : Nums (cutL 32 l) (f :: xs) (cutL 32 l).length) (ht : sickB f xs = true) : l = numsL (f :: xs) := by
  obtain ⟨⟨f0, _⟩, _, hx⟩ := sick_bounds ht
  apply words_nums
  apply List.ext_getElem?
  intro j
  rw [List.getElem?_map]
  have hlen := h.len
  rcases Nat.lt_or_ge j (f :: xs).length with hj | hj
  · obtain ⟨x, hxj⟩ := get_of_lt hj
    obtain ⟨p, hp⟩ := get_of_lt (xs := cutL 32 l) (k := j) (by omega)
    have h0 : 0 ≤ x := by
      rcases List.mem_cons.1 (List.mem_of_getElem? hxj) with h9 | h9
      · omega
      · exact (hx x h9).1
    rw [hxj, hp, h.back j x p hxj hp h0]; rfl
  · rw [List.getElem?_eq_none (by omega), List.getElem?_eq_none hj]; rfl
set_option maxHeartbeats 4000000 in
set_option maxRecDepth 100000 in
theorem impl_ReadSick_any (s : ByteArray) (hs : s.size ≤ 100000) (w : World) (hE : Env w) :
    Calls Tryz.prog 12 #[.string s] w fun e w' => SickE s w w' e := by
  have HW0 := Lib.hid ((Below.refl w.heap.size w).alloc (Nat.le_refl _) (.cells #[.int .i64 0, .slice none 0 0] 28))
  have HZ0 := Lib.hid (Blk.new w 28 #[.int .i64 0, .slice none 0 0])
  have HE := Lib.hid (hE.past HW0.out); clear hE
  go_enter Tryz.func12, Tryz.ntmps12
  go_wp2_with fail
  generalize w.alloc _ = W at HW0 HZ0 HE ⊢
  have hWz : w.heap.size < W.heap.size := HZ0.out.lt
  refine (impl_readJoined_any s hs W HE.out).mono ?_
  rintro e w1 ⟨A, n, c, b, ns, rfl, hR, hyes, hno, hb⟩
  have HR := Lib.hid hR
  have HBB := Lib.hid (HW0.out.trans (hb.mono HW0.out.size))
  have HZ := Lib.hid (HZ0.out.below' hb)
  have hwl : w.heap.size < w1.heap.size := HZ.out.lt
  have HY := Lib.hid hyes
  have HN := Lib.hid hno
  have hln : ns.length = n := by have := hR.len; rwa [intRows_length] at this
  clear hR hb hyes hno HW0 HZ0
  cases b
  · have HNO := Lib.hid (fun (g : Int) (ys : List Int) (ht : sickB g ys = true) (hl : s.data.toList = numsL (g :: ys)) => (show False from (HN.out rfl).2 _ (sick_words ht hl).2.1 (sick_words ht hl).1))
    have z0 := HZ.out.frozen 0
    have z1 := HZ.out.frozen 1
    have c0 : w1.cell? ⟨w.heap.size, 0, none⟩ = some (.int .i64 0) := HZ.out.cell 0
    have c1 : w1.cell? ⟨w.heap.size, 1, none⟩ = some (.slice none 0 0) := HZ.out.cell 1
    go_wp2
    have hK := ((HZ.out.set_ 0 (.int .i64 (0))).set_ 1 (.slice none 0 0))
    have hBE := ((HBB.out.setCell (p := ⟨w.heap.size, 0, none⟩) (Nat.le_refl _) (.int .i64 (0))).setCell (p := ⟨w.heap.size, 1, none⟩) (Nat.le_refl _) (.slice none 0 0))
    generalize (w1.setCell ⟨w.heap.size, 0, none⟩ (.int .i64 (0))).setCell ⟨w.heap.size, 1, none⟩ (.slice none 0 0) = W9 at hK hBE ⊢
    have r0 : W9.cell? ⟨w.heap.size, 0, none⟩ = some (.int .i64 (0)) := hK.cell 0
    have r1 : W9.cell? ⟨w.heap.size, 1, none⟩ = some (.slice none 0 0) := hK.cell 1
    refine bodyPost_ret (v := .tuple #[.agg #[.int .i64 (0), .slice none 0 0], .bool false]) (by simp [results, Tryz.results12, go_sem, r0, r1]) rfl ?_
    exact ⟨0, none, 0, 0, false, [], rfl, liesT_nil _, Nat.le_refl _, by unfold In64; omega, fun h => (by cases h), fun _ => ⟨rfl, rfl⟩, fun g ys ht hl => (HNO.out g ys ht hl).elim, hBE⟩
  have HNS := Lib.hid (HY.out rfl)
  have hlw : ns.length = (cutL 32 s.data.toList).length := HNS.out.len
  have hwp := List.length_pos_iff.2 (cutL_ne 32 s.data.toList)
  have h1 : 1 ≤ n := by omega
  clear hlw hwp
  obtain ⟨f, xs, rfl⟩ : ∃ f xs, ns = f :: xs := by
    match ns, hln with
    | [], h => rw [List.length_nil] at h; omega
    | f :: xs, _ => exact ⟨f, xs, rfl⟩
  have HLN := Lib.hid hln
  have hxl : xs.length = n - 1 := by rw [List.length_cons] at hln; omega
  have HXL := Lib.hid hxl
  have hnc : n ≤ c := cap_of HR.out
  have HNM := Lib.hid (show n ≤ 1048577 from by
    have h4 := HNS.out.len
    have h5 : (cutL 32 s.data.toList).length ≤ 100001 := by
      rw [cutL_len]
      have h1 := List.count_le_length (a := (32 : UInt8)) (l := s.data.toList)
      have h2 : s.data.toList.length = s.size := rfl
      omega
    rw [h4] at hln
    omega)
  obtain ⟨g, _, rfl, hg0, _, _, _⟩ := HR.out.at_ (by omega)
  have hgw : w.heap.size < g := Nat.lt_of_lt_of_le hWz hg0
  have hn0 : 0 < n := by omega
  have h1i : (1 : Int) ≤ (n : Int) := by omega
  obtain ⟨o1, hif, ho1⟩ : ∃ o1 : Nat, (if c = 1 then (some ⟨g, 0, none⟩ : Option Addr) else some ⟨g, 1, none⟩) = some ⟨g, o1, none⟩ ∧ (n - 1 = 0 ∨ o1 = 1) := by
    by_cases hc : c = 1
    · exact ⟨0, by rw [if_pos hc], .inl (by omega)⟩
    · exact ⟨1, by rw [if_neg hc], .inr rfl⟩
  have HO1 := Lib.hid ho1
  clear ho1
  have HRD := Lib.hid HR.out.rd
  have cf : w1.cell? ⟨g, 0, none⟩ = some (.int .i64 f) := by
    obtain ⟨ad, had, _, h9⟩ := HRD.out.int_at (k := 0) (x := f) rfl
    injection had with had
    subst had
    rwa [Addr.add_zero'] at h9
  have cf2 : (w1.alloc (.cells #[.int .i64 0, .slice none 0 0] 28)).cell? ⟨g, 0, none⟩ = some (.int .i64 f) := (((Below.refl w1.heap.size w1).alloc (Nat.le_refl _) _).cell (block_lt_of_cell cf)).trans cf
  have hf64 : In64 f := HNS.out.fit f (by simp)
  have HF := Lib.hid hf64
  clear hln hxl hf64
  go_wp2
  go_cut [6] (fun p wx => ∃ G : Nat, p = .pointer (some ⟨G, 0, none⟩) ∧ w1.heap.size ≤ G ∧ Hid (Blk wx G 28 #[.int .i64 f, .slice (some ⟨g, o1, none⟩) (n - 1) (c - 1)]) ∧ Hid (Below w1.heap.size w1 wx))
  case first =>
   go_region_law (fail)
   all_goals go_wp2_with fail
   all_goals go_meet
   all_goals first | exact ⟨_, rfl, Nat.le_refl _, Lib.hid ((Blk.new w1 _ _).drew), Lib.hid (((Below.refl w1.heap.size w1).alloc (Nat.le_refl _) _).drew)⟩ | exact ⟨_, rfl, Nat.le_refl _, Lib.hid (Blk.new w1.drew _ _), Lib.hid ((Below.refl w1.heap.size w1).drew.alloc (Nat.le_refl _) _)⟩
  obtain ⟨G, rfl, hG, HKG, HBG⟩ := hcut
  have HZc := Lib.hid (HZ.out.below' HBG.out)
  have HBc := Lib.hid (HBB.out.trans (HBG.out.mono HBB.out.size))
  have HRc := Lib.hid (HRD.out.past HBG.out)
  have HRt := Lib.hid (show Rd wc wc.heap.size (some ⟨g, o1, none⟩) 1 (intRows xs) from by
    rcases HO1.out with h | h
    · exact .inl (List.eq_nil_of_length_eq_zero (by rw [intRows_length, HXL.out]; exact h))
    · rw [h]; exact rd_tail HRc.out)
  have HLc := Lib.hid (show LiesT wc (some ⟨g, o1, none⟩) (n - 1) xs from ⟨HXL.out, by have := HNM.out; omega, HRt.out, fun x hx => HNS.out.fit x (by simp [hx])⟩)
  have k0 : wc.cell? ⟨G, 0, none⟩ = some (.int .i64 f) := HKG.out.cell 0
  have k1 : wc.cell? ⟨G, 1, none⟩ = some (.slice (some ⟨g, o1, none⟩) (n - 1) (c - 1)) := HKG.out.cell 1
  clear cf cf2 HZ HBB HRD
  go_wp2_with fail
  refine (impl_IsSickTable_any f (some ⟨g, o1, none⟩) (n - 1) (c - 1) xs wc HLc.out).mono ?_
  rintro e w2 ⟨rfl, hb2⟩
  have HBB := Lib.hid (HBc.out.trans (hb2.mono HBc.out.size))
  have HZ := Lib.hid (HZc.out.below' hb2)
  have HK2 := Lib.hid (HKG.out.below' hb2)
  have HL2 := Lib.hid (HLc.out.past hb2)
  clear k0 k1 hb2 HZc HBc HRc HLc HKG HBG
  cases ht : sickB f xs
  · have HNO := Lib.hid (fun (g' : Int) (ys : List Int) (ht' : sickB g' ys = true) (hl : s.data.toList = numsL (g' :: ys)) => (show False from by
      have h4 := nums_sick HNS.out ht' hl
      injection h4 with h5 h6
      rw [h5, h6, ht'] at ht
      cases ht))
    have k0 : w2.cell? ⟨G, 0, none⟩ = some (.int .i64 f) := HK2.out.cell 0
    have k1 : w2.cell? ⟨G, 1, none⟩ = some (.slice (some ⟨g, o1, none⟩) (n - 1) (c - 1)) := HK2.out.cell 1
    have z0 := HZ.out.frozen 0
    have z1 := HZ.out.frozen 1
    have c0 : w2.cell? ⟨w.heap.size, 0, none⟩ = some (.int .i64 0) := HZ.out.cell 0
    have c1 : w2.cell? ⟨w.heap.size, 1, none⟩ = some (.slice none 0 0) := HZ.out.cell 1
    go_wp2
    have hK := ((HZ.out.set_ 0 (.int .i64 (0))).set_ 1 (.slice none 0 0))
    have hBE := ((HBB.out.setCell (p := ⟨w.heap.size, 0, none⟩) (Nat.le_refl _) (.int .i64 (0))).setCell (p := ⟨w.heap.size, 1, none⟩) (Nat.le_refl _) (.slice none 0 0))
    generalize (w2.setCell ⟨w.heap.size, 0, none⟩ (.int .i64 (0))).setCell ⟨w.heap.size, 1, none⟩ (.slice none 0 0) = W9 at hK hBE ⊢
    have r0 : W9.cell? ⟨w.heap.size, 0, none⟩ = some (.int .i64 (0)) := hK.cell 0
    have r1 : W9.cell? ⟨w.heap.size, 1, none⟩ = some (.slice none 0 0) := hK.cell 1
    refine bodyPost_ret (v := .tuple #[.agg #[.int .i64 (0), .slice none 0 0], .bool false]) (by simp [results, Tryz.results12, go_sem, r0, r1]) rfl ?_
    exact ⟨0, none, 0, 0, false, [], rfl, liesT_nil _, Nat.le_refl _, by unfold In64; omega, fun h => (by cases h), fun _ => ⟨rfl, rfl⟩, fun g ys ht hl => (HNO.out g ys ht hl).elim, hBE⟩
  · have HTB := Lib.hid ht
    clear ht
    have k0 : w2.cell? ⟨G, 0, none⟩ = some (.int .i64 f) := HK2.out.cell 0
    have k1 : w2.cell? ⟨G, 1, none⟩ = some (.slice (some ⟨g, o1, none⟩) (n - 1) (c - 1)) := HK2.out.cell 1
    have z0 := HZ.out.frozen 0
    have z1 := HZ.out.frozen 1
    have c0 : w2.cell? ⟨w.heap.size, 0, none⟩ = some (.int .i64 0) := HZ.out.cell 0
    have c1 : w2.cell? ⟨w.heap.size, 1, none⟩ = some (.slice none 0 0) := HZ.out.cell 1
    go_wp2
    have hK := ((HZ.out.set_ 0 (.int .i64 (f))).set_ 1 (.slice (some ⟨g, o1, none⟩) (n - 1) (c - 1)))
    have hBE := ((HBB.out.setCell (p := ⟨w.heap.size, 0, none⟩) (Nat.le_refl _) (.int .i64 (f))).setCell (p := ⟨w.heap.size, 1, none⟩) (Nat.le_refl _) (.slice (some ⟨g, o1, none⟩) (n - 1) (c - 1)))
    have HL9 : LiesT ((w2.setCell ⟨w.heap.size, 0, none⟩ (.int .i64 f)).setCell ⟨w.heap.size, 1, none⟩ (.slice (some ⟨g, o1, none⟩) (n - 1) (c - 1))) (some ⟨g, o1, none⟩) (n - 1) xs := lies_far HL2.out hgw _ _
    generalize (w2.setCell ⟨w.heap.size, 0, none⟩ (.int .i64 (f))).setCell ⟨w.heap.size, 1, none⟩ (.slice (some ⟨g, o1, none⟩) (n - 1) (c - 1)) = W9 at hK hBE HL9 ⊢
    have r0 : W9.cell? ⟨w.heap.size, 0, none⟩ = some (.int .i64 (f)) := hK.cell 0
    have r1 : W9.cell? ⟨w.heap.size, 1, none⟩ = some (.slice (some ⟨g, o1, none⟩) (n - 1) (c - 1)) := hK.cell 1
    refine bodyPost_ret (v := .tuple #[.agg #[.int .i64 (f), .slice (some ⟨g, o1, none⟩) (n - 1) (c - 1)], .bool true]) (by simp [results, Tryz.results12, go_sem, r0, r1]) rfl ?_
    exact ⟨f, some ⟨g, o1, none⟩, n - 1, c - 1, true, xs, rfl, HL9, by omega, HF.out, fun _ => ⟨HTB.out, nums_stext HNS.out HTB.out⟩, fun h => (by cases h), fun g' ys ht' hl => (by have h4 := nums_sick HNS.out ht' hl; injection h4 with h5 h6; exact ⟨h5, h6, rfl⟩), hBE⟩

set_option maxHeartbeats 4000000 in
set_option maxRecDepth 100000 in
theorem spec_ReadSick_any (s : ByteArray) (hs : s.size ≤ 100000) (w : World) :
    Calls Tryz.prog 14 #[.string s] w fun e w' => SickE s w w' e := by
  have HW0 := Lib.hid ((Below.refl w.heap.size w).alloc (Nat.le_refl _) (.cells #[.int .i64 0, .slice none 0 0] 28))
  have HZ0 := Lib.hid (Blk.new w 28 #[.int .i64 0, .slice none 0 0])
  go_enter Tryz.func14, Tryz.ntmps14
  go_wp2_with fail
  generalize w.alloc _ = W at HW0 HZ0 ⊢
  have hWz : w.heap.size < W.heap.size := HZ0.out.lt
  refine (spec_l01Split_any s 32 hs W).mono ?_
  rintro e wA ⟨A1, m1, c1, rfl, hm1, hRA, hbA⟩
  have HBA := Lib.hid hbA
  have hWA : w.heap.size < wA.heap.size := Nat.lt_of_lt_of_le hWz hbA.size
  have hml : m1 ≤ 1000000 := by
    have h1 := List.count_le_length (a := (32 : UInt8)) (l := s.data.toList)
    have h2 : s.data.toList.length = s.size := rfl
    rw [cutL_len] at hm1
    omega
  have HM1 := Lib.hid hm1
  clear hbA hm1
  go_wp2_with fail
  refine (spec_l01Numbers_any A1 m1 c1 (cutL 32 s.data.toList) wA HM1.out.symm hml hRA.rd).mono ?_
  rintro e w1 ⟨A, n, c, b, ns, rfl, hR, hyes, hno, hb2⟩
  have hb := HBA.out.trans (hb2.mono HBA.out.size)
  clear hRA hb2 HBA
  have HR := Lib.hid hR
  have HBB := Lib.hid (HW0.out.trans (hb.mono HW0.out.size))
  have HZ := Lib.hid (HZ0.out.below' hb)
  have hwl : w.heap.size < w1.heap.size := HZ.out.lt
  have HY := Lib.hid hyes
  have HN := Lib.hid hno
  have hln : ns.length = n := by have := hR.len; rwa [intRows_length] at this
  clear hR hb hyes hno HW0 HZ0
  cases b
  · have HNO := Lib.hid (fun (g : Int) (ys : List Int) (ht : sickB g ys = true) (hl : s.data.toList = numsL (g :: ys)) => (show False from (HN.out rfl).2 _ (sick_words ht hl).2.1 (sick_words ht hl).1))
    have z0 := HZ.out.frozen 0
    have z1 := HZ.out.frozen 1
    have c0 : w1.cell? ⟨w.heap.size, 0, none⟩ = some (.int .i64 0) := HZ.out.cell 0
    have c1 : w1.cell? ⟨w.heap.size, 1, none⟩ = some (.slice none 0 0) := HZ.out.cell 1
    go_wp2
    have hK := ((HZ.out.set_ 0 (.int .i64 (0))).set_ 1 (.slice none 0 0))
    have hBE := ((HBB.out.setCell (p := ⟨w.heap.size, 0, none⟩) (Nat.le_refl _) (.int .i64 (0))).setCell (p := ⟨w.heap.size, 1, none⟩) (Nat.le_refl _) (.slice none 0 0))
    generalize (w1.setCell ⟨w.heap.size, 0, none⟩ (.int .i64 (0))).setCell ⟨w.heap.size, 1, none⟩ (.slice none 0 0) = W9 at hK hBE ⊢
    have r0 : W9.cell? ⟨w.heap.size, 0, none⟩ = some (.int .i64 (0)) := hK.cell 0
    have r1 : W9.cell? ⟨w.heap.size, 1, none⟩ = some (.slice none 0 0) := hK.cell 1
    refine bodyPost_ret (v := .tuple #[.agg #[.int .i64 (0), .slice none 0 0], .bool false]) (by simp [results, Tryz.results14, go_sem, r0, r1]) rfl ?_
    exact ⟨0, none, 0, 0, false, [], rfl, liesT_nil _, Nat.le_refl _, by unfold In64; omega, fun h => (by cases h), fun _ => ⟨rfl, rfl⟩, fun g ys ht hl => (HNO.out g ys ht hl).elim, hBE⟩
  have HNS := Lib.hid (HY.out rfl)
  have hlw : ns.length = (cutL 32 s.data.toList).length := HNS.out.len
  have hwp := List.length_pos_iff.2 (cutL_ne 32 s.data.toList)
  by_cases h2 : n < 2
  · have h2i : (n : Int) < 2 := by omega
    have HNO := Lib.hid (fun (g : Int) (ys : List Int) (ht : sickB g ys = true) (hl : s.data.toList = numsL (g :: ys)) => (show False from by
      have h3 := (sick_words ht hl).2.2
      have h4 := nums_sick HNS.out ht hl
      rw [← h4] at h3
      omega))
    have z0 := HZ.out.frozen 0
    have z1 := HZ.out.frozen 1
    have c0 : w1.cell? ⟨w.heap.size, 0, none⟩ = some (.int .i64 0) := HZ.out.cell 0
    have c1 : w1.cell? ⟨w.heap.size, 1, none⟩ = some (.slice none 0 0) := HZ.out.cell 1
    go_wp2
    have hK := ((HZ.out.set_ 0 (.int .i64 (0))).set_ 1 (.slice none 0 0))
    have hBE := ((HBB.out.setCell (p := ⟨w.heap.size, 0, none⟩) (Nat.le_refl _) (.int .i64 (0))).setCell (p := ⟨w.heap.size, 1, none⟩) (Nat.le_refl _) (.slice none 0 0))
    generalize (w1.setCell ⟨w.heap.size, 0, none⟩ (.int .i64 (0))).setCell ⟨w.heap.size, 1, none⟩ (.slice none 0 0) = W9 at hK hBE ⊢
    have r0 : W9.cell? ⟨w.heap.size, 0, none⟩ = some (.int .i64 (0)) := hK.cell 0
    have r1 : W9.cell? ⟨w.heap.size, 1, none⟩ = some (.slice none 0 0) := hK.cell 1
    refine bodyPost_ret (v := .tuple #[.agg #[.int .i64 (0), .slice none 0 0], .bool false]) (by simp [results, Tryz.results14, go_sem, r0, r1]) rfl ?_
    exact ⟨0, none, 0, 0, false, [], rfl, liesT_nil _, Nat.le_refl _, by unfold In64; omega, fun h => (by cases h), fun _ => ⟨rfl, rfl⟩, fun g ys ht hl => (HNO.out g ys ht hl).elim, hBE⟩
  have h2i : ¬ (n : Int) < 2 := by omega
  have h1 : 1 ≤ n := by omega
  clear hlw hwp
  obtain ⟨f, xs, rfl⟩ : ∃ f xs, ns = f :: xs := by
    match ns, hln with
    | [], h => rw [List.length_nil] at h; omega
    | f :: xs, _ => exact ⟨f, xs, rfl⟩
  have HLN := Lib.hid hln
  have hxl : xs.length = n - 1 := by rw [List.length_cons] at hln; omega
  have HXL := Lib.hid hxl
  have hnc : n ≤ c := cap_of HR.out
  have HNM := Lib.hid (show n ≤ 1048577 from by
    have h4 := HNS.out.len
    have h5 : (cutL 32 s.data.toList).length ≤ 100001 := by
      rw [cutL_len]
      have h1 := List.count_le_length (a := (32 : UInt8)) (l := s.data.toList)
      have h2 : s.data.toList.length = s.size := rfl
      omega
    rw [h4] at hln
    omega)
  obtain ⟨g, _, rfl, hg0, _, _, _⟩ := HR.out.at_ (by omega)
  have hgw : w.heap.size < g := Nat.lt_of_lt_of_le hWA hg0
  have hn0 : 0 < n := by omega
  have h1i : (1 : Int) ≤ (n : Int) := by omega
  obtain ⟨o1, hif, ho1⟩ : ∃ o1 : Nat, (if c = 1 then (some ⟨g, 0, none⟩ : Option Addr) else some ⟨g, 1, none⟩) = some ⟨g, o1, none⟩ ∧ (n - 1 = 0 ∨ o1 = 1) := by
    by_cases hc : c = 1
    · exact ⟨0, by rw [if_pos hc], .inl (by omega)⟩
    · exact ⟨1, by rw [if_neg hc], .inr rfl⟩
  have HO1 := Lib.hid ho1
  clear ho1
  have HRD := Lib.hid HR.out.rd
  have cf : w1.cell? ⟨g, 0, none⟩ = some (.int .i64 f) := by
    obtain ⟨ad, had, _, h9⟩ := HRD.out.int_at (k := 0) (x := f) rfl
    injection had with had
    subst had
    rwa [Addr.add_zero'] at h9
  have cf2 : (w1.alloc (.cells #[.int .i64 0, .slice none 0 0] 28)).cell? ⟨g, 0, none⟩ = some (.int .i64 f) := (((Below.refl w1.heap.size w1).alloc (Nat.le_refl _) _).cell (block_lt_of_cell cf)).trans cf
  have hf64 : In64 f := HNS.out.fit f (by simp)
  have HF := Lib.hid hf64
  clear hln hxl hf64
  go_wp2
  go_cut [6] (fun p wx => ∃ G : Nat, p = .pointer (some ⟨G, 0, none⟩) ∧ w1.heap.size ≤ G ∧ Hid (Blk wx G 28 #[.int .i64 f, .slice (some ⟨g, o1, none⟩) (n - 1) (c - 1)]) ∧ Hid (Below w1.heap.size w1 wx))
  case first =>
   go_region_law (fail)
   all_goals go_wp2_with fail
   all_goals go_meet
   all_goals first | exact ⟨_, rfl, Nat.le_refl _, Lib.hid ((Blk.new w1 _ _).drew), Lib.hid (((Below.refl w1.heap.size w1).alloc (Nat.le_refl _) _).drew)⟩ | exact ⟨_, rfl, Nat.le_refl _, Lib.hid (Blk.new w1.drew _ _), Lib.hid ((Below.refl w1.heap.size w1).drew.alloc (Nat.le_refl _) _)⟩
  obtain ⟨G, rfl, hG, HKG, HBG⟩ := hcut
  have HZc := Lib.hid (HZ.out.below' HBG.out)
  have HBc := Lib.hid (HBB.out.trans (HBG.out.mono HBB.out.size))
  have HRc := Lib.hid (HRD.out.past HBG.out)
  have HRt := Lib.hid (show Rd wc wc.heap.size (some ⟨g, o1, none⟩) 1 (intRows xs) from by
    rcases HO1.out with h | h
    · exact .inl (List.eq_nil_of_length_eq_zero (by rw [intRows_length, HXL.out]; exact h))
    · rw [h]; exact rd_tail HRc.out)
  have HLc := Lib.hid (show LiesT wc (some ⟨g, o1, none⟩) (n - 1) xs from ⟨HXL.out, by have := HNM.out; omega, HRt.out, fun x hx => HNS.out.fit x (by simp [hx])⟩)
  have k0 : wc.cell? ⟨G, 0, none⟩ = some (.int .i64 f) := HKG.out.cell 0
  have k1 : wc.cell? ⟨G, 1, none⟩ = some (.slice (some ⟨g, o1, none⟩) (n - 1) (c - 1)) := HKG.out.cell 1
  clear cf cf2 HZ HBB HRD
  go_wp2_with fail
  refine (spec_IsSickTable_any f (some ⟨g, o1, none⟩) (n - 1) (c - 1) xs wc HLc.out).mono ?_
  rintro e w2 ⟨rfl, hb2⟩
  have HBB := Lib.hid (HBc.out.trans (hb2.mono HBc.out.size))
  have HZ := Lib.hid (HZc.out.below' hb2)
  have HK2 := Lib.hid (HKG.out.below' hb2)
  have HL2 := Lib.hid (HLc.out.past hb2)
  clear k0 k1 hb2 HZc HBc HRc HLc HKG HBG
  cases ht : sickB f xs
  · have HNO := Lib.hid (fun (g' : Int) (ys : List Int) (ht' : sickB g' ys = true) (hl : s.data.toList = numsL (g' :: ys)) => (show False from by
      have h4 := nums_sick HNS.out ht' hl
      injection h4 with h5 h6
      rw [h5, h6, ht'] at ht
      cases ht))
    have k0 : w2.cell? ⟨G, 0, none⟩ = some (.int .i64 f) := HK2.out.cell 0
    have k1 : w2.cell? ⟨G, 1, none⟩ = some (.slice (some ⟨g, o1, none⟩) (n - 1) (c - 1)) := HK2.out.cell 1
    have z0 := HZ.out.frozen 0
    have z1 := HZ.out.frozen 1
    have c0 : w2.cell? ⟨w.heap.size, 0, none⟩ = some (.int .i64 0) := HZ.out.cell 0
    have c1 : w2.cell? ⟨w.heap.size, 1, none⟩ = some (.slice none 0 0) := HZ.out.cell 1
    go_wp2
    have hK := ((HZ.out.set_ 0 (.int .i64 (0))).set_ 1 (.slice none 0 0))
    have hBE := ((HBB.out.setCell (p := ⟨w.heap.size, 0, none⟩) (Nat.le_refl _) (.int .i64 (0))).setCell (p := ⟨w.heap.size, 1, none⟩) (Nat.le_refl _) (.slice none 0 0))
    generalize (w2.setCell ⟨w.heap.size, 0, none⟩ (.int .i64 (0))).setCell ⟨w.heap.size, 1, none⟩ (.slice none 0 0) = W9 at hK hBE ⊢
    have r0 : W9.cell? ⟨w.heap.size, 0, none⟩ = some (.int .i64 (0)) := hK.cell 0
    have r1 : W9.cell? ⟨w.heap.size, 1, none⟩ = some (.slice none 0 0) := hK.cell 1
    refine bodyPost_ret (v := .tuple #[.agg #[.int .i64 (0), .slice none 0 0], .bool false]) (by simp [results, Tryz.results14, go_sem, r0, r1]) rfl ?_
    exact ⟨0, none, 0, 0, false, [], rfl, liesT_nil _, Nat.le_refl _, by unfold In64; omega, fun h => (by cases h), fun _ => ⟨rfl, rfl⟩, fun g ys ht hl => (HNO.out g ys ht hl).elim, hBE⟩
  · have HTB := Lib.hid ht
    clear ht
    have k0 : w2.cell? ⟨G, 0, none⟩ = some (.int .i64 f) := HK2.out.cell 0
    have k1 : w2.cell? ⟨G, 1, none⟩ = some (.slice (some ⟨g, o1, none⟩) (n - 1) (c - 1)) := HK2.out.cell 1
    have z0 := HZ.out.frozen 0
    have z1 := HZ.out.frozen 1
    have c0 : w2.cell? ⟨w.heap.size, 0, none⟩ = some (.int .i64 0) := HZ.out.cell 0
    have c1 : w2.cell? ⟨w.heap.size, 1, none⟩ = some (.slice none 0 0) := HZ.out.cell 1
    go_wp2
    have hK := ((HZ.out.set_ 0 (.int .i64 (f))).set_ 1 (.slice (some ⟨g, o1, none⟩) (n - 1) (c - 1)))
    have hBE := ((HBB.out.setCell (p := ⟨w.heap.size, 0, none⟩) (Nat.le_refl _) (.int .i64 (f))).setCell (p := ⟨w.heap.size, 1, none⟩) (Nat.le_refl _) (.slice (some ⟨g, o1, none⟩) (n - 1) (c - 1)))
    have HL9 : LiesT ((w2.setCell ⟨w.heap.size, 0, none⟩ (.int .i64 f)).setCell ⟨w.heap.size, 1, none⟩ (.slice (some ⟨g, o1, none⟩) (n - 1) (c - 1))) (some ⟨g, o1, none⟩) (n - 1) xs := lies_far HL2.out hgw _ _
    generalize (w2.setCell ⟨w.heap.size, 0, none⟩ (.int .i64 (f))).setCell ⟨w.heap.size, 1, none⟩ (.slice (some ⟨g, o1, none⟩) (n - 1) (c - 1)) = W9 at hK hBE HL9 ⊢
    have r0 : W9.cell? ⟨w.heap.size, 0, none⟩ = some (.int .i64 (f)) := hK.cell 0
    have r1 : W9.cell? ⟨w.heap.size, 1, none⟩ = some (.slice (some ⟨g, o1, none⟩) (n - 1) (c - 1)) := hK.cell 1
    refine bodyPost_ret (v := .tuple #[.agg #[.int .i64 (f), .slice (some ⟨g, o1, none⟩) (n - 1) (c - 1)], .bool true]) (by simp [results, Tryz.results14, go_sem, r0, r1]) rfl ?_
    exact ⟨f, some ⟨g, o1, none⟩, n - 1, c - 1, true, xs, rfl, HL9, by omega, HF.out, fun _ => ⟨HTB.out, nums_stext HNS.out HTB.out⟩, fun h => (by cases h), fun g' ys ht' hl => (by have h4 := nums_sick HNS.out ht' hl; injection h4 with h5 h6; exact ⟨h5, h6, rfl⟩), hBE⟩
end Go.Proofs.YtkdfdbcpbgganaaGreatDoor
end

/- What the law on life tables draws. -/
section
namespace Go.Proofs.YtkdfdbcpbgganaaGreatDoor
open Go.RowKit Go.BigFrame

def TxtE (w w' : World) (e : Ending) : Prop := ∃ r : ByteArray, e = .returned (.string r) ∧ r.size ≤ 20000 ∧ Below w.heap.size w w'
theorem ints_lies {B n c : Nat} {w : World} {A : Option Addr} (h : IntsBy B w A n c 0 1000001) (hn : n ≤ 1000) : ∃ xs : List Int, LiesT w A n xs ∧ n ≤ c := by
  obtain ⟨xs, hR, hf⟩ := h
  exact ⟨xs, ⟨by have := hR.len; rwa [intRows_length] at this, by omega, hR.rd, fun x hx => by have := hf x hx; unfold In64; omega⟩, cap_of hR⟩
theorem ints_far {B b n c : Nat} {lo hi : Int} {w : World} {A : Option Addr} (h : IntsBy B w A n c lo hi) (hb : b < B) (u v : Value) : IntsBy B ((w.setCell ⟨b, 0, none⟩ u).setCell ⟨b, 1, none⟩ v) A n c lo hi := by
  obtain ⟨xs, hR, hf⟩ := h
  refine ⟨xs, hR.keep fun g hg => ?_, hf⟩
  have := (hR.lt hg).1
  exact (Below.heap_setCell _ _ _ _ (by show g ≠ b; omega)).trans (Below.heap_setCell _ _ _ _ (by show g ≠ b; omega))
theorem textP_size (f : Int) (xs : List Int) : (S (textP f xs)).size ≤ 3000 := by
  unfold textP
  split
  · rename_i h
    obtain ⟨⟨f0, f1⟩, ⟨x0, x1⟩, hx⟩ := table_bounds h
    have h1 := nums_size (xs := f :: xs) (by rw [List.length_cons]; omega) (fun y hy => by
      rcases List.mem_cons.1 hy with rfl | hy
      · omega
      · exact hx y hy) (f :: xs).length
    rwa [List.take_length] at h1
  · show (0 : Nat) ≤ 3000; omega
def DrawTE (w w' : World) (e : Ending) : Prop := ∃ (f : Int) (A : Option Addr) (n c : Nat) (a : Int), e = .returned (.tuple #[.agg #[.int .i64 f, .slice A n c], .int .i64 a]) ∧ IntsBy w.heap.size w' A n c 0 1000001 ∧ (1 ≤ n ∧ n ≤ 30) ∧ (-1 ≤ f ∧ f ≤ 101) ∧ (-2000 ≤ a ∧ a ≤ 4000) ∧ Below w.heap.size w w'
end Go.Proofs.YtkdfdbcpbgganaaGreatDoor
end

/- Sickness tables: the program's weeks at an age. -/
section
namespace Go.Proofs.YtkdfdbcpbgganaaGreatDoor
open Go.RowKit Go.BigFrame

theorem SickT.size : (Tryz.prog.info? 28).map (·.size) = some 2 := by kernel_rfl
set_option maxHeartbeats 2000000 in
theorem impl_SickTable_weeks_any (f : Int) (A : Option Addr) (n cap : Nat) (xs : List Int) (age : Int) (w : World) (hT : LiesT w A n xs) (hf : 0 ≤ f ∧ f ≤ 100) (ha : 0 ≤ age ∧ age ≤ 1000) :
    Calls Tryz.prog 70 #[.agg #[.int .i64 f, .slice A n cap], .int .i64 age] w fun e w' => e = .returned (.int .i64 (weeksP f xs age)) ∧ Below w.heap.size w w' := by
  have hbw : Below w.heap.size w (w.alloc (.cells #[.int .i64 f, .slice A n cap] 28)) := (Below.refl _ w).alloc (Nat.le_refl _) _
  have HB := Lib.hid (Blk.new w 28 #[.int .i64 f, .slice A n cap])
  have HT := Lib.hid (hT.past hbw); clear hT
  have hn := HT.out.small
  have HL := Lib.hid HT.out.len
  obtain ⟨f0, f1⟩ := hf
  obtain ⟨a0, a1⟩ := ha
  have b0 : (w.alloc (.cells #[.int .i64 f, .slice A n cap] 28)).cell? ⟨w.heap.size, 0, none⟩ = some (.int .i64 f) := HB.out.cell 0
  have b1 : (w.alloc (.cells #[.int .i64 f, .slice A n cap] 28)).cell? ⟨w.heap.size, 1, none⟩ = some (.slice A n cap) := HB.out.cell 1
  have d0 := fun y : Past (w.alloc (.cells #[.int .i64 f, .slice A n cap] 28)) => Past.cell b0 y
  have d1 := fun y : Past (w.alloc (.cells #[.int .i64 f, .slice A n cap] 28)) => Past.cell b1 y
  cases h : inR age f (f + (n : Int) - 1)
  · have Q := Lib.hid (show weeksP f xs age = 0 by
      unfold weeksP
      split
      · rw [lv_past]
        rw [HL.out]
        rcases Nat.lt_or_ge (age - f).toNat n with h1 | h1
        · have h2 := inR_true.2 (show f ≤ age ∧ age ≤ f + (n : Int) - 1 from ⟨by omega, by omega⟩)
          rw [h] at h2; cases h2
        · exact h1
      · rfl)
    go_enter Tryz.func70, Tryz.ntmps70
    go_wp2
    refine wp_region_past (by kernel_rfl) (by kernel_rfl) ?_
    repeat (go_big_quiet_step ((first | (go_at_call 51; exact past_same (intsLen_any A n cap _ hn)) | (go_at_call 50; exact past_same ((impl_inRange_any _ _ _ _).mono (by rw [h]; exact fun _ _ h => h))))))
    refine wpQuiet_nil ?_
    rintro _ ⟨y, rfl⟩
    go_wp2
    go_ret
    exact ⟨by rw [Q.out]; rfl, hbw.trans (y.2.mono (by simp))⟩
  · obtain ⟨h1, h2⟩ := inR_true.1 h
    obtain ⟨k, hk⟩ := Int.eq_ofNat_of_zero_le (show 0 ≤ age - f by omega)
    have Q := Lib.hid (show weeksP f xs age = lv xs k by unfold weeksP; rw [if_pos (by omega), show (age - f).toNat = k by omega])
    obtain ⟨ad, rfl, had, hck⟩ := HT.out.at_ (k := k) (by omega)
    have hkn : (k : Int) < (n : Int) := by omega
    go_enter Tryz.func70, Tryz.ntmps70
    go_wp2
    refine wp_region_past (by kernel_rfl) (by kernel_rfl) ?_
    repeat (go_big_quiet_step ((first | (go_at_call 51; exact past_same (intsLen_any (some ad) n cap _ hn)) | (go_at_call 50; exact past_same ((impl_inRange_any _ _ _ _).mono (by rw [h]; exact fun _ _ h => h))))))
    refine wpQuiet_nil ?_
    rintro _ ⟨y, rfl⟩
    have c0 := d0 y
    have c1 := d1 y
    have hck1 := (y.2.cell (p := ad.add k) (by rw [block_of_add]; exact had)).trans hck
    go_wp2
    go_ret
    exact ⟨by rw [Q.out]; rfl, hbw.trans (y.2.mono (by simp))⟩
end Go.Proofs.YtkdfdbcpbgganaaGreatDoor
end

/- Draws of sickness tables. -/
section
namespace Go.Proofs.YtkdfdbcpbgganaaGreatDoor
open Go.RowKit Go.BigFrame

theorem sick_lies {B n c : Nat} {w : World} {A : Option Addr} (h : IntsBy B w A n c (-1) 52001) (hn : n ≤ 1000) : ∃ xs : List Int, LiesT w A n xs ∧ n ≤ c := by
  obtain ⟨xs, hR, hf⟩ := h
  exact ⟨xs, ⟨by have := hR.len; rwa [intRows_length] at this, by omega, hR.rd, fun x hx => by have := hf x hx; unfold In64; omega⟩, cap_of hR⟩
theorem sickP_size (f : Int) (xs : List Int) : (S (sickP f xs)).size ≤ 3000 := by
  unfold sickP
  split
  · rename_i h
    obtain ⟨⟨f0, f1⟩, ⟨x0, x1⟩, hx⟩ := sick_bounds h
    have h1 := nums_size (xs := f :: xs) (by rw [List.length_cons]; omega) (fun y hy => by
      rcases List.mem_cons.1 hy with rfl | hy
      · omega
      · exact hx y hy) (f :: xs).length
    rwa [List.take_length] at h1
  · show (0 : Nat) ≤ 3000; omega
set_option maxRecDepth 100000 in
set_option maxHeartbeats 8000000 in
theorem spec_l09Draw_any (K : Code) (hK : K.Ok) (g : Nat) (w0 : World) (w : World) (hT : Nx K g w0 w) :
    Calls Tryz.prog 31 #[.pointer (some ⟨g, 0, none⟩)] w fun e w' => ∃ (f : Int) (A' : Option Addr) (n' c' : Nat), e = .returned (.agg #[.int .i64 f, .slice A' n' c']) ∧ IntsBy w0.heap.size w' A' n' c' (-1) 52001 ∧ n' ≤ 31 ∧ (-1 ≤ f ∧ f ≤ 101) ∧ Nx K g w0 w' := by
  obtain ⟨i0, hi0, hz0, hz1, hz2⟩ := info_parts Int64.info
  have HI := Lib.hid (And.intro hi0 (And.intro hz0 (And.intro hz1 hz2))); clear hi0 hz0 hz1 hz2
  have HT0 := Lib.hid hT
  have hgw := hT.src.lt
  have hOw := (Nx.refl hT.src).alloc (.cells #[.int .i64 0, .slice none 0 0] 28)
  have HZ0 := Lib.hid (Blk.new w 28 #[.int .i64 0, .slice none 0 0])
  clear hT
  have hT := Nx.refl hOw.src
  have hza := HZ0.out.lt
  have HSZ := Lib.hid (show w.heap.size + 1 = (w.alloc (.cells #[.int .i64 0, .slice none 0 0] 28)).heap.size by simp)
  go_enter Tryz.func31, Tryz.ntmps31
  go_upto_region 1 with (fail)
  generalize w.alloc (.cells #[.int .i64 0, .slice none 0 0] 28) = Wa at hT hOw HZ0 HSZ hza ⊢
  go_upto_region 2 with (first | (go_at_call 33; refine (spec_l01Pick_new K hK g _ _ _ _ (by first | exact hT | exact hT.alloc _ | exact (hT.alloc _).alloc _ | exact hT.drew) (by rfl) (by decide) (by decide) (by rfl)).mono ?_; rintro e w3 ⟨x, rfl, hx, hT⟩; simp only [OneOf, Value.int.injEq, true_and, or_false] at hx))
  generalize x = fv at hx ⊢
  have hf : 0 ≤ fv ∧ fv ≤ 40 := by omega
  have hWB : Wa.heap.size ≤ w3.heap.size := hT.size
  have hgB : g < w3.heap.size := hT.src.lt
  have hO := (hT.alloc (.cells #[] 2)).alloc (.cells #[.int .i64 fv, .slice (some ⟨w3.heap.size, 0, none⟩) 0 0] 28)
  have HR := Lib.hid ((show Res w3.heap.size (w3.alloc (.cells #[] 2)) 2 1 (some ⟨w3.heap.size, 0, none⟩) 0 0 (intRows []) from Res.zero w3 w3.heap.size 2 1 (Nat.le_refl _)).alloc (.cells #[.int .i64 fv, .slice (some ⟨w3.heap.size, 0, none⟩) 0 0] 28))
  have HB := Lib.hid (show Blk ((w3.alloc (.cells #[] 2)).alloc (.cells #[.int .i64 fv, .slice (some ⟨w3.heap.size, 0, none⟩) 0 0] 28)) (w3.heap.size + 1) 28 #[.int .i64 fv, .slice (some ⟨w3.heap.size, 0, none⟩) 0 0] from by
    have h := Blk.new (w3.alloc (.cells #[] 2)) 28 #[.int .i64 fv, .slice (some ⟨w3.heap.size, 0, none⟩) 0 0]
    rwa [World.size_alloc] at h)
  have HNE := Lib.hid (show blkOf (some (⟨w3.heap.size, 0, none⟩ : Addr)) ≠ some (w3.heap.size + 1) by simp [blkOf])
  obtain ⟨Bs, hBs⟩ : ∃ Bs, w3.heap.size = Bs := ⟨_, rfl⟩
  obtain ⟨Gb, hGb⟩ : ∃ Gb, Bs + 1 = Gb := ⟨_, rfl⟩
  have hT2 := hT
  rw [hBs] at HR HB HNE hgB hWB hO ⊢
  rw [hGb] at HB HNE ⊢
  generalize (w3.alloc _).alloc _ = W3 at hO HR HB ⊢
  clear hT hT2 hBs
  obtain ⟨A0, hA0⟩ : ∃ A0 : Option Addr, some (⟨Bs, 0, none⟩ : Addr) = A0 := ⟨_, rfl⟩
  rw [hA0] at HR HB HNE
  clear hA0
  have hgG : g < Gb := by omega
  have hGa : Wa.heap.size ≤ Gb := by omega
  have hgWa : g < Wa.heap.size := hOw.src.lt
  have hT := Nx.refl hO.src
  go_wp2_with (go_at_call 32; refine (spec_l01Next_any K hK g _ _ _ (Nx.refl (Nx.src (by first | exact hT | exact hT.alloc _ | exact (hT.alloc _).alloc _ | exact hT.drew)))).mono ?_; rintro e w3 ⟨x, rfl, ⟨hx0, hx1⟩, hN⟩; have hT := Nx.trans (by first | exact hT | exact hT.alloc _ | exact (hT.alloc _).alloc _ | exact hT.drew) hN)
  rename_i x1 _ hx10 hx11 _ _ _
  have HR := Lib.hid (HR.out.nx hT hgB)
  have HK := Lib.hid (HB.out.nx hT (Nat.ne_of_gt hgG))
  have hO := hO.trans hT
  clear hT hN HB
  go_loopw [4, 5] (fun r i wr => ∃ (k : Nat) (A' : Option Addr) (c' : Nat) (xs : List Int) (m ra : Int), i = .int .i64 m ∧ r = .int .i64 ra ∧ (0 ≤ m ∧ 1 ≤ (k : Int) + m ∧ (k : Int) + m ≤ 31) ∧ (0 ≤ ra ∧ ra ≤ 300 * (k : Int) + 1000) ∧ Hid (Blk wr Gb 28 #[.int .i64 fv, .slice A' k c']) ∧ Hid (Res Bs wr 2 1 A' k c' (intRows xs)) ∧ Hid (blkOf A' ≠ some Gb) ∧ Hid (∀ x ∈ xs, -1 ≤ x ∧ x ≤ 52001) ∧ Nx K g Wa wr) (fun _ i _ => (intOf i).toNat)
  case atStart => exact ⟨0, A0, 0, [], _, _, rfl, rfl, by omega, by omega, HK, HR, HNE, Lib.hid (by simp), hO⟩
  case round =>
    clear hO HR HK HNE
    obtain ⟨k, A', c', xs, m, ra, rfl, rfl, ⟨m0, m1, m2⟩, ⟨r0, r1⟩, HK, HR, HNE, HX, hO⟩ := hrel
    have hsz : Bs ≤ wr.heap.size := by have := HK.out.lt; omega
    by_cases hm : 0 < m
    · have b1 : wr.cell? ⟨Gb, 1, none⟩ = some (.slice A' k c') := HK.out.cell 1
      go_upto_region 7 with (at_builtin; refine wpList_append_row_at _ rfl _ _ _ rfl Bs 2 i0 _ 1 8 Tryz.underlying24 HI.out.1 HI.out.2.1 HI.out.2.2.1 HI.out.2.2.2 rfl (by decide) (by decide) A' k c' _ rfl HR.out [.int .i64 _] _ rfl rfl (by simp [Value.oneCell']) (by omega) hsz ?_; intro A2 c2 w4 hR4 hb4 hk4 hA4; rw [← intRows_snoc] at hR4; have HR4 := Lib.hid hR4; clear hR4; have HK4 := Lib.hid (HK.out.kept hk4 (fun h => HNE.out h.symm)); have hO4 := hO.kept hgWa hWB hb4; have HNE4 : Hid (blkOf A2 ≠ some Gb) := Lib.hid (by rcases hA4 with h | h; exact (by rw [h]; exact HNE.out); exact (by have hlt := HK.out.lt; rw [h]; intro h9; injection h9 with h9; omega)); have z1 : w4.cell? ⟨Gb, 1, none⟩ = some (.slice A' k c') := HK4.out.cell 1; have z2 : w4.frozen? ⟨Gb, 1, none⟩ = false := HK4.out.frozen 1; clear hk4 hA4 hb4)
      have HK5 := Lib.hid (show Blk (w4.setCell ⟨Gb, 1, none⟩ (.slice A2 (k + 1) c2)) Gb 28 #[.int .i64 fv, .slice A2 (k + 1) c2] by simpa using HK4.out.set_ 1 (.slice A2 (k + 1) c2))
      have HR5 := Lib.hid (HR4.out.keep (w' := (w4.setCell ⟨Gb, 1, none⟩ (.slice A2 (k + 1) c2))) fun g' hg' => Below.heap_setCell _ _ _ _ (fun h => HNE4.out (by rw [hg']; exact congrArg some h)))
      have hO5 := hO4.kept hgWa (Nat.le_refl _) ((Below.refl _ _).setCell (p := ⟨Gb, 1, none⟩) hGa (.slice A2 (k + 1) c2))
      clear hO hO4 z1 z2 b1 HR4 HK4
      generalize w4.setCell ⟨Gb, 1, none⟩ (.slice A2 (k + 1) c2) = W5 at HK5 HR5 hO5 ⊢
      have hT := Nx.refl hO5.src
      go_wp2_with (go_at_call 32; refine (spec_l01Next_any K hK g _ _ _ (Nx.refl (Nx.src (by first | exact hT | exact hT.alloc _ | exact (hT.alloc _).alloc _ | exact hT.drew)))).mono ?_; rintro e w3 ⟨x, rfl, ⟨hx0, hx1⟩, hN⟩; have hT := Nx.trans (by first | exact hT | exact hT.alloc _ | exact (hT.alloc _).alloc _ | exact hT.drew) hN)
      all_goals go_round
      case rel => exact ⟨k + 1, A2, c2, _, _, _, by go_num, by go_num, by omega, by omega, Lib.hid (HK5.out.nx hT (Nat.ne_of_gt hgG)), Lib.hid (HR5.out.nx hT hgB), HNE4, Lib.hid (ints_snoc HX.out (by omega)), hO5.trans hT⟩
      case measure => simp [intOf]; omega
    · have hm0 : m = 0 := by omega
      subst hm0
      have hE0 : IntsBy Bs wr A' k c' (-1) 52001 := ⟨xs, HR.out, HX.out⟩
      obtain ⟨gA, hA, hA1, hA2, _⟩ := hE0.put (k := 0) (by omega)
      subst hA
      have HE3 := Lib.hid hE0
      have HO2 := Lib.hid hO
      have HA := Lib.hid (And.intro hA1 (show gA ≠ Gb from fun h => HNE.out (by rw [h]; rfl)))
      have hT := Nx.refl hO.src
      clear hm hE0 hA1 hA2 HNE HX HR hO
      go_upto_region 15 with (first | ((go_at_call 32; refine (spec_l01Next_any K hK g _ _ _ (Nx.refl (Nx.src (by first | exact hT | exact hT.alloc _ | exact (hT.alloc _).alloc _ | exact hT.drew)))).mono ?_; rintro e w3 ⟨x, rfl, ⟨hx0, hx1⟩, hN⟩; have hT := Nx.trans (by first | exact hT | exact hT.alloc _ | exact (hT.alloc _).alloc _ | exact hT.drew) hN); have hB3 := HK.out.nx hT (Nat.ne_of_gt hgG); have b0 : w3.cell? ⟨Gb, 0, none⟩ = some (.int .i64 fv) := hB3.cell 0; have b1 : w3.cell? ⟨Gb, 1, none⟩ = some (.slice (some ⟨gA, 0, none⟩) k c') := hB3.cell 1; have z0 : w3.frozen? ⟨Gb, 0, none⟩ = false := hB3.frozen 0; have z1 : w3.frozen? ⟨Gb, 1, none⟩ = false := hB3.frozen 1) | ((go_at_call 33; refine (spec_l01Pick_new K hK g _ _ _ _ (by first | exact hT | exact hT.alloc _ | exact (hT.alloc _).alloc _ | exact hT.drew) (by rfl) (by decide) (by decide) (by rfl)).mono ?_; rintro e w3 ⟨x, rfl, hx, hT⟩; simp only [OneOf, Value.int.injEq, true_and, or_false] at hx); have hB3 := HK.out.nx hT (Nat.ne_of_gt hgG); have b0 : w3.cell? ⟨Gb, 0, none⟩ = some (.int .i64 fv) := hB3.cell 0; have z0 : w3.frozen? ⟨Gb, 0, none⟩ = false := hB3.frozen 0))
      · have HD := Lib.hid hT.drew
        have HD2 := Lib.hid ((hT.alloc (.cells #[.int .i64 (-1), .int .i64 52000, .int .i64 52001] 2)).drew)
        have HD3 := Lib.hid (hT.alloc (.cells #[.int .i64 (-1), .int .i64 52000, .int .i64 52001] 2))
        have HBL := Lib.hid ((Blk.new w3 2 #[.int .i64 (-1), .int .i64 52000, .int .i64 52001]).drew)
        have HGL := Lib.hid hT.src.lt
        have HS5 := Lib.hid (fun w' (h : Nx K g wr w') => (show Nx K g Wa w' ∧ w'.cell? ⟨Gb, 1, none⟩ = some (.slice (some ⟨gA, 0, none⟩) k c') from ⟨HO2.out.trans h, (HK.out.nx h (Nat.ne_of_gt hgG)).cell 1⟩))
        have HS6 := Lib.hid (fun w' (x : Int) (h : Nx K g wr w') => (show Nx K g Wa (w'.setCell ⟨gA, 0, none⟩ (.int .i64 x)) ∧ (w'.setCell ⟨gA, 0, none⟩ (.int .i64 x)).cell? ⟨Gb, 1, none⟩ = some (.slice (some ⟨gA, 0, none⟩) k c') from by
          obtain ⟨hA1, hA2⟩ := HA.out
          exact ⟨(HO2.out.trans h).kept (B := Wa.heap.size) hgWa (Nat.le_refl _) ((Below.refl _ _).setCell (p := ⟨gA, 0, none⟩) (by show Wa.heap.size ≤ gA; omega) _), ((HK.out.nx h (Nat.ne_of_gt hgG)).far (p := ⟨gA, 0, none⟩) (by show Gb ≠ gA; omega) _).cell 1⟩))
        have hn0 : (0 : Int) < (k : Int) := by omega
        have hn0' : 0 < k := by omega
        clear b0 b1 z0 z1 hB3
        go_region_held3 (fun w' => Nx K g Wa w' ∧ w'.cell? ⟨Gb, 1, none⟩ = some (.slice (some ⟨gA, 0, none⟩) k c')) (first | exact HS6.out _ _ HP.out | exact HS5.out _ HP.out | exact HS5.out _ HD2.out | exact HS5.out _ HD3.out | exact HS5.out _ HD.out) (first | (go_at_call 33; refine (spec_l01Pick_any K hK g _ w3.heap.size [.int .i64 (-1), .int .i64 52000, .int .i64 52001] 3 _ HD2.out HBL.out HGL.out rfl (by decide) (by decide) rfl).mono ?_; rintro e w5 ⟨xp, rfl, hxp, hT5⟩; simp only [OneOf, Value.int.injEq, true_and, or_false] at hxp; have HP := Lib.hid hT5; obtain ⟨⟨y0, e0⟩, zz0, hp0⟩ := (HE3.out.nx hT5 hgB).at_ (k := 0) (by omega)))
        obtain ⟨hA1, hA2⟩ := HA.out
        have hZW := ((HZ0.out.nx (HO2.out.trans HP.out) (Nat.ne_of_gt hgw)).far (p := ⟨gA, 0, none⟩) (by show w.heap.size ≠ gA; omega) (.int .i64 xp))
        have hNW := ((hOw.trans (HO2.out.trans HP.out)).kept hgw (Nat.le_refl _) ((Below.refl _ _).setCell (p := ⟨gA, 0, none⟩) (by show w.heap.size ≤ gA; omega) (.int .i64 xp)))
        have hBW := ((HK.out.nx HP.out (Nat.ne_of_gt hgG)).far (p := ⟨gA, 0, none⟩) (by show Gb ≠ gA; omega) (.int .i64 xp))
        have hEW := hp0 xp (by omega)
        have hcO := Lib.hid (Blk.agg (cs := [.int .i64 fv, .slice (some ⟨gA, 0, none⟩) k c']) hBW 0 [.int .i64 fv, .slice (some ⟨gA, 0, none⟩) k c'] rfl)
        have H1 : Hid (∀ v ∈ ([.int .i64 fv, .slice (some ⟨gA, 0, none⟩) k c'] : List Value), v.oneCell' = true) := Lib.hid (by simp [Value.oneCell'])
        have HEW := Lib.hid hEW; have HNW := Lib.hid hNW
        clear hEW hNW hBW
        go_wp2_with (first | (refine wpList_load_agg rfl 28 _ rfl ⟨Gb, 0, none⟩ rfl [.int .i64 fv, .slice (some ⟨gA, 0, none⟩) k c'] hcO.out _ Tryz.underlying28 rfl SickT.size ?_) | (refine wpList_store_agg rfl 28 _ _ rfl (w.heap.size) 0 [.int .i64 fv, .slice (some ⟨gA, 0, none⟩) k c'] rfl rfl 28 #[.int .i64 0, .slice none 0 0] hZW SickT.size (by simp) H1.out ?_))
        intro w6 hR6 hg6 _
        have hR6' : Blk w6 (w.heap.size) 28 #[.int .i64 fv, .slice (some ⟨gA, 0, none⟩) k c'] := hR6
        have r0 : w6.cell? ⟨w.heap.size, 0, none⟩ = some (.int .i64 (fv)) := hR6'.cell 0
        have r1 : w6.cell? ⟨w.heap.size, 1, none⟩ = some (.slice (some ⟨gA, 0, none⟩) k c') := hR6'.cell 1
        go_wp2
        refine bodyPost_ret (v := .agg #[.int .i64 fv, .slice (some ⟨gA, 0, none⟩) k c']) (by simp [results, Tryz.results31, go_sem, r0, r1]) rfl ?_
        refine ⟨fv, _, _, _, rfl, ?_, by omega, by omega, HT0.out.trans (HNW.out.kept hgw (Nat.le_refl _) ((Below.refl _ _).grown hg6 (Nat.le_of_lt hZW.lt) (fun k hk => by injection hk with hk; omega)))⟩
        obtain ⟨xs, hRx, hfx⟩ := HEW.out
        exact ⟨xs, (hRx.keep fun g' hg' => hg6.block g' (hRx.lt hg').2 (fun e => by injection e with e; have := (hRx.lt hg').1; omega)).more (by have := HT0.out.size; omega), hfx⟩
      · have hB9 : Blk (w3.setCell ⟨Gb, 0, none⟩ (.int .i64 x)) Gb 28 #[.int .i64 x, .slice (some ⟨gA, 0, none⟩) k c'] := by simpa using hB3.set_ 0 (.int .i64 x)
        obtain ⟨hA1, hA2⟩ := HA.out
        have hZW := ((HZ0.out.nx (HO2.out.trans hT) (Nat.ne_of_gt hgw)).far (p := ⟨Gb, 0, none⟩) (by show w.heap.size ≠ Gb; omega) (.int .i64 x))
        have hNW := ((hOw.trans (HO2.out.trans hT)).kept hgw (Nat.le_refl _) ((Below.refl _ _).setCell (p := ⟨Gb, 0, none⟩) (by show w.heap.size ≤ Gb; omega) (.int .i64 x)))
        have hBW := hB9
        have hEW := ((HE3.out.nx hT hgB).far (p := ⟨Gb, 0, none⟩) (by show gA ≠ Gb; omega) (.int .i64 x))
        have hcO := Lib.hid (Blk.agg (cs := [.int .i64 x, .slice (some ⟨gA, 0, none⟩) k c']) hBW 0 [.int .i64 x, .slice (some ⟨gA, 0, none⟩) k c'] rfl)
        have H1 : Hid (∀ v ∈ ([.int .i64 x, .slice (some ⟨gA, 0, none⟩) k c'] : List Value), v.oneCell' = true) := Lib.hid (by simp [Value.oneCell'])
        have HEW := Lib.hid hEW; have HNW := Lib.hid hNW
        clear hEW hNW hBW
        go_wp2_with (first | (refine wpList_load_agg rfl 28 _ rfl ⟨Gb, 0, none⟩ rfl [.int .i64 x, .slice (some ⟨gA, 0, none⟩) k c'] hcO.out _ Tryz.underlying28 rfl SickT.size ?_) | (refine wpList_store_agg rfl 28 _ _ rfl (w.heap.size) 0 [.int .i64 x, .slice (some ⟨gA, 0, none⟩) k c'] rfl rfl 28 #[.int .i64 0, .slice none 0 0] hZW SickT.size (by simp) H1.out ?_))
        intro w6 hR6 hg6 _
        have hR6' : Blk w6 (w.heap.size) 28 #[.int .i64 x, .slice (some ⟨gA, 0, none⟩) k c'] := hR6
        have r0 : w6.cell? ⟨w.heap.size, 0, none⟩ = some (.int .i64 (x)) := hR6'.cell 0
        have r1 : w6.cell? ⟨w.heap.size, 1, none⟩ = some (.slice (some ⟨gA, 0, none⟩) k c') := hR6'.cell 1
        go_wp2
        refine bodyPost_ret (v := .agg #[.int .i64 x, .slice (some ⟨gA, 0, none⟩) k c']) (by simp [results, Tryz.results31, go_sem, r0, r1]) rfl ?_
        refine ⟨x, _, _, _, rfl, ?_, by omega, by omega, HT0.out.trans (HNW.out.kept hgw (Nat.le_refl _) ((Below.refl _ _).grown hg6 (Nat.le_of_lt hZW.lt) (fun k hk => by injection hk with hk; omega)))⟩
        obtain ⟨xs, hRx, hfx⟩ := HEW.out
        exact ⟨xs, (hRx.keep fun g' hg' => hg6.block g' (hRx.lt hg').2 (fun e => by injection e with e; have := (hRx.lt hg').1; omega)).more (by have := HT0.out.size; omega), hfx⟩
      · have hB9 : Blk (w3.setCell ⟨Gb, 1, none⟩ (.slice none 0 0)) Gb 28 #[.int .i64 fv, .slice none 0 0] := by simpa using hB3.set_ 1 (.slice none 0 0)
        have hZW := ((HZ0.out.nx (HO2.out.trans hT) (Nat.ne_of_gt hgw)).far (p := ⟨Gb, 1, none⟩) (by show w.heap.size ≠ Gb; omega) (.slice none 0 0))
        have hNW := ((hOw.trans (HO2.out.trans hT)).kept hgw (Nat.le_refl _) ((Below.refl _ _).setCell (p := ⟨Gb, 1, none⟩) (by show w.heap.size ≤ Gb; omega) (.slice none 0 0)))
        have hBW := hB9
        have hEW := (show IntsBy Bs (w3.setCell ⟨Gb, 1, none⟩ (.slice none 0 0)) none 0 0 (-1) 52001 from ⟨[], Res.nil_, by simp⟩)
        have hcO := Lib.hid (Blk.agg (cs := [.int .i64 fv, .slice none 0 0]) hBW 0 [.int .i64 fv, .slice none 0 0] rfl)
        have H1 : Hid (∀ v ∈ ([.int .i64 fv, .slice none 0 0] : List Value), v.oneCell' = true) := Lib.hid (by simp [Value.oneCell'])
        have HEW := Lib.hid hEW; have HNW := Lib.hid hNW
        clear hEW hNW hBW
        go_wp2_with (first | (refine wpList_load_agg rfl 28 _ rfl ⟨Gb, 0, none⟩ rfl [.int .i64 fv, .slice none 0 0] hcO.out _ Tryz.underlying28 rfl SickT.size ?_) | (refine wpList_store_agg rfl 28 _ _ rfl (w.heap.size) 0 [.int .i64 fv, .slice none 0 0] rfl rfl 28 #[.int .i64 0, .slice none 0 0] hZW SickT.size (by simp) H1.out ?_))
        intro w6 hR6 hg6 _
        have hR6' : Blk w6 (w.heap.size) 28 #[.int .i64 fv, .slice none 0 0] := hR6
        have r0 : w6.cell? ⟨w.heap.size, 0, none⟩ = some (.int .i64 (fv)) := hR6'.cell 0
        have r1 : w6.cell? ⟨w.heap.size, 1, none⟩ = some (.slice none 0 0) := hR6'.cell 1
        go_wp2
        refine bodyPost_ret (v := .agg #[.int .i64 fv, .slice none 0 0]) (by simp [results, Tryz.results31, go_sem, r0, r1]) rfl ?_
        refine ⟨fv, _, _, _, rfl, ?_, by omega, by omega, HT0.out.trans (HNW.out.kept hgw (Nat.le_refl _) ((Below.refl _ _).grown hg6 (Nat.le_of_lt hZW.lt) (fun k hk => by injection hk with hk; omega)))⟩
        obtain ⟨xs, hRx, hfx⟩ := HEW.out
        exact ⟨xs, (hRx.keep fun g' hg' => hg6.block g' (hRx.lt hg').2 (fun e => by injection e with e; have := (hRx.lt hg').1; omega)).more (by have := HT0.out.size; omega), hfx⟩
      · have hZW := (HZ0.out.nx (HO2.out.trans hT) (Nat.ne_of_gt hgw))
        have hNW := (hOw.trans (HO2.out.trans hT))
        have hBW := hB3
        have hEW := (HE3.out.nx hT hgB)
        have hcO := Lib.hid (Blk.agg (cs := [.int .i64 fv, .slice (some ⟨gA, 0, none⟩) k c']) hBW 0 [.int .i64 fv, .slice (some ⟨gA, 0, none⟩) k c'] rfl)
        have H1 : Hid (∀ v ∈ ([.int .i64 fv, .slice (some ⟨gA, 0, none⟩) k c'] : List Value), v.oneCell' = true) := Lib.hid (by simp [Value.oneCell'])
        have HEW := Lib.hid hEW; have HNW := Lib.hid hNW
        clear hEW hNW hBW
        go_wp2_with (first | (refine wpList_load_agg rfl 28 _ rfl ⟨Gb, 0, none⟩ rfl [.int .i64 fv, .slice (some ⟨gA, 0, none⟩) k c'] hcO.out _ Tryz.underlying28 rfl SickT.size ?_) | (refine wpList_store_agg rfl 28 _ _ rfl (w.heap.size) 0 [.int .i64 fv, .slice (some ⟨gA, 0, none⟩) k c'] rfl rfl 28 #[.int .i64 0, .slice none 0 0] hZW SickT.size (by simp) H1.out ?_))
        intro w6 hR6 hg6 _
        have hR6' : Blk w6 (w.heap.size) 28 #[.int .i64 fv, .slice (some ⟨gA, 0, none⟩) k c'] := hR6
        have r0 : w6.cell? ⟨w.heap.size, 0, none⟩ = some (.int .i64 (fv)) := hR6'.cell 0
        have r1 : w6.cell? ⟨w.heap.size, 1, none⟩ = some (.slice (some ⟨gA, 0, none⟩) k c') := hR6'.cell 1
        go_wp2
        refine bodyPost_ret (v := .agg #[.int .i64 fv, .slice (some ⟨gA, 0, none⟩) k c']) (by simp [results, Tryz.results31, go_sem, r0, r1]) rfl ?_
        refine ⟨fv, _, _, _, rfl, ?_, by omega, by omega, HT0.out.trans (HNW.out.kept hgw (Nat.le_refl _) ((Below.refl _ _).grown hg6 (Nat.le_of_lt hZW.lt) (fun k hk => by injection hk with hk; omega)))⟩
        obtain ⟨xs, hRx, hfx⟩ := HEW.out
        exact ⟨xs, (hRx.keep fun g' hg' => hg6.block g' (hRx.lt hg').2 (fun e => by injection e with e; have := (hRx.lt hg').1; omega)).more (by have := HT0.out.size; omega), hfx⟩
end Go.Proofs.YtkdfdbcpbgganaaGreatDoor
end
