/- Life tables are read: ReadTable of the program and of the reference. -/
import Derived.Test.YtlbllonpodckgaaGreatDoorTabW
import Derived.Test.YtlbllonpodckgaaGreatDoorTail
import Derived.Deep.DeepCutAuto
import Derived.Deep.RegionHeld3
namespace Go.Proofs.YtlbllonpodckgaaGreatDoor
open Go.RowKit Go.BigFrame

def TabE (s : ByteArray) (w w' : World) (e : Ending) : Prop := ∃ (f : Int) (A : Option Addr) (n c : Nat) (b : Bool) (xs : List Int), e = .returned (.tuple #[.agg #[.int .i64 f, .slice A n c], .bool b]) ∧ LiesT w' A n xs ∧ n ≤ c ∧ In64 f ∧
  (b = true → tableB f xs = true ∧ s.data.toList = numsL (f :: xs)) ∧ (b = false → f = 0 ∧ xs = []) ∧ (∀ (g : Int) (ys : List Int), tableB g ys = true → s.data.toList = numsL (g :: ys) → f = g ∧ xs = ys ∧ b = true) ∧ Below w.heap.size w w'
theorem table_words {g : Int} {ys : List Int} (h : tableB g ys = true) {l : List UInt8} (hl : l = numsL (g :: ys)) : cutL 32 l = (g :: ys).map decL ∧ (∀ m ∈ g :: ys, 0 ≤ m ∧ m ≤ 9999999999999) ∧ 3 ≤ (g :: ys).length := by
  obtain ⟨⟨g0, g1⟩, ⟨y0, y1⟩, hy⟩ := table_bounds h
  refine ⟨by rw [hl]; exact cut_nums _ (by simp), ?_, by rw [List.length_cons]; omega⟩
  intro m hm
  rcases List.mem_cons.1 hm with rfl | hm
  · omega
  · have := hy m hm; omega
theorem nums_is {l : List UInt8} {ns : List Int} (h : Nums (cutL 32 l) ns (cutL 32 l).length) {g : Int} {ys : List Int} (ht : tableB g ys = true) (hl : l = numsL (g :: ys)) : ns = g :: ys := by
  obtain ⟨h1, h2, _⟩ := table_words ht hl
  have h3 := h.forth _ h2 h1
  rw [h3, h1, List.length_map, List.take_length]
theorem nums_text {l : List UInt8} {f : Int} {xs : List Int} (h : Nums (cutL 32 l) (f :: xs) (cutL 32 l).length) (ht : tableB f xs = true) : l = numsL (f :: xs) := by
  obtain ⟨⟨f0, _⟩, _, hx⟩ := table_bounds ht
  apply words_nums
  apply List.ext_getElem?
  intro j
  rw [List.getElem?_map]
  have hlen := h.len
  rcases Nat.lt_or_ge j (f :: xs).length with hj | hj
  · obtain ⟨x, hxj⟩ := get_of_lt hj
    obtain ⟨p, hp⟩ := get_of_lt (xs := cutL 32 l) (k := j) (by omega)
    have h0 : 0 ≤ x := by
      rcases List.mem_cons.1 (List.mem_of_getElem? hxj) with h9 | h9
      · omega
      · exact (hx x h9).1
    rw [hxj, hp, h.back j x p hxj hp h0]; rfl
  · rw [List.getElem?_eq_none (by omega), List.getElem?_eq_none hj]; rfl
theorem drop_rows (f : Int) (xs : List Int) : (intRows (f :: xs)).drop 1 = intRows xs := by simp [intRows]
theorem rd_tail {w : World} {B g : Nat} {f : Int} {xs : List Int} (h : Rd w B (some ⟨g, 0, none⟩) 1 (intRows (f :: xs))) : Rd w B (some ⟨g, 1, none⟩) 1 (intRows xs) := by
  have h1 := h.cut 1
  rw [drop_rows] at h1
  simpa [add_none] using h1
theorem lies_far {w : World} {g b n o1 : Nat} {xs : List Int} (h : LiesT w (some ⟨g, o1, none⟩) n xs) (hne : b < g) (u v : Value) : LiesT ((w.setCell ⟨b, 0, none⟩ u).setCell ⟨b, 1, none⟩ v) (some ⟨g, o1, none⟩) n xs := by
  refine ⟨h.len, h.small, ?_, h.fits⟩
  rcases h.rd with h1 | ⟨ad, e, hb, hc⟩
  · exact .inl h1
  · injection e with e
    subst e
    refine .inr ⟨⟨g, o1, none⟩, rfl, by simpa using hb, fun k r hr => ⟨(hc k r hr).1, fun j x hx => ?_⟩⟩
    have h2 := (hc k r hr).2 j x hx
    rw [add_none] at h2 ⊢
    rw [World.cell?_setCell_other _ _ _ _ (fun e => by have := congrArg Addr.block e; simp at this; omega), World.cell?_setCell_other _ _ _ _ (fun e => by have := congrArg Addr.block e; simp at this; omega)]
    exact h2
theorem liesT_nil (w : World) : LiesT w none 0 [] := ⟨rfl, by omega, .inl rfl, by simp⟩

set_option maxHeartbeats 4000000 in
set_option maxRecDepth 100000 in
theorem impl_ReadTable_any (s : ByteArray) (hs : s.size ≤ 100000) (w : World) (hE : Env w) :
    Calls Tryz.prog 49 #[.string s] w fun e w' => TabE s w w' e := by
  have HW0 := Lib.hid ((Below.refl w.heap.size w).alloc (Nat.le_refl _) (.cells #[.int .i64 0, .slice none 0 0] 40))
  have HZ0 := Lib.hid (Blk.new w 40 #[.int .i64 0, .slice none 0 0])
  have HE := Lib.hid (hE.past HW0.out); clear hE
  go_enter Tryz.func49, Tryz.ntmps49
  go_wp2_with fail
  generalize w.alloc _ = W at HW0 HZ0 HE ⊢
  have hWz : w.heap.size < W.heap.size := HZ0.out.lt
  refine (impl_readJoined_any s hs W HE.out).mono ?_
  rintro e w1 ⟨A, n, c, b, ns, rfl, hR, hyes, hno, hb⟩
  have HR := Lib.hid hR
  have HBB := Lib.hid (HW0.out.trans (hb.mono HW0.out.size))
  have HZ := Lib.hid (HZ0.out.below' hb)
  have hwl : w.heap.size < w1.heap.size := HZ.out.lt
  have HY := Lib.hid hyes
  have HN := Lib.hid hno
  have hln : ns.length = n := by have := hR.len; rwa [intRows_length] at this
  clear hR hb hyes hno HW0 HZ0
  cases b
  · have HNO := Lib.hid (fun (g : Int) (ys : List Int) (ht : tableB g ys = true) (hl : s.data.toList = numsL (g :: ys)) => (show False from (HN.out rfl).2 _ (table_words ht hl).2.1 (table_words ht hl).1))
    have z0 := HZ.out.frozen 0
    have z1 := HZ.out.frozen 1
    have c0 : w1.cell? ⟨w.heap.size, 0, none⟩ = some (.int .i64 0) := HZ.out.cell 0
    have c1 : w1.cell? ⟨w.heap.size, 1, none⟩ = some (.slice none 0 0) := HZ.out.cell 1
    go_wp2
    have hK := ((HZ.out.set_ 0 (.int .i64 (0))).set_ 1 (.slice none 0 0))
    have hBE := ((HBB.out.setCell (p := ⟨w.heap.size, 0, none⟩) (Nat.le_refl _) (.int .i64 (0))).setCell (p := ⟨w.heap.size, 1, none⟩) (Nat.le_refl _) (.slice none 0 0))
    generalize (w1.setCell ⟨w.heap.size, 0, none⟩ (.int .i64 (0))).setCell ⟨w.heap.size, 1, none⟩ (.slice none 0 0) = W9 at hK hBE ⊢
    have r0 : W9.cell? ⟨w.heap.size, 0, none⟩ = some (.int .i64 (0)) := hK.cell 0
    have r1 : W9.cell? ⟨w.heap.size, 1, none⟩ = some (.slice none 0 0) := hK.cell 1
    refine bodyPost_ret (v := .tuple #[.agg #[.int .i64 (0), .slice none 0 0], .bool false]) (by simp [results, Tryz.results49, go_sem, r0, r1]) rfl ?_
    exact ⟨0, none, 0, 0, false, [], rfl, liesT_nil _, Nat.le_refl _, by unfold In64; omega, fun h => (by cases h), fun _ => ⟨rfl, rfl⟩, fun g ys ht hl => (HNO.out g ys ht hl).elim, hBE⟩
  have HNS := Lib.hid (HY.out rfl)
  have hlw : ns.length = (cutL 32 s.data.toList).length := HNS.out.len
  have hwp := List.length_pos_iff.2 (cutL_ne 32 s.data.toList)
  have h1 : 1 ≤ n := by omega
  clear hlw hwp
  obtain ⟨f, xs, rfl⟩ : ∃ f xs, ns = f :: xs := by
    match ns, hln with
    | [], h => rw [List.length_nil] at h; omega
    | f :: xs, _ => exact ⟨f, xs, rfl⟩
  have HLN := Lib.hid hln
  have hxl : xs.length = n - 1 := by rw [List.length_cons] at hln; omega
  have HXL := Lib.hid hxl
  have hnc : n ≤ c := cap_of HR.out
  have HNM := Lib.hid (show n ≤ 1048577 from by
    have h4 := HNS.out.len
    have h5 : (cutL 32 s.data.toList).length ≤ 100001 := by
      rw [cutL_len]
      have h1 := List.count_le_length (a := (32 : UInt8)) (l := s.data.toList)
      have h2 : s.data.toList.length = s.size := rfl
      omega
    rw [h4] at hln
    omega)
  obtain ⟨g, _, rfl, hg0, _, _, _⟩ := HR.out.at_ (by omega)
  have hgw : w.heap.size < g := Nat.lt_of_lt_of_le hWz hg0
  have hn0 : 0 < n := by omega
  have h1i : (1 : Int) ≤ (n : Int) := by omega
  obtain ⟨o1, hif, ho1⟩ : ∃ o1 : Nat, (if c = 1 then (some ⟨g, 0, none⟩ : Option Addr) else some ⟨g, 1, none⟩) = some ⟨g, o1, none⟩ ∧ (n - 1 = 0 ∨ o1 = 1) := by
    by_cases hc : c = 1
    · exact ⟨0, by rw [if_pos hc], .inl (by omega)⟩
    · exact ⟨1, by rw [if_neg hc], .inr rfl⟩
  have HO1 := Lib.hid ho1
  clear ho1
  have HRD := Lib.hid HR.out.rd
  have cf : w1.cell? ⟨g, 0, none⟩ = some (.int .i64 f) := by
    obtain ⟨ad, had, _, h9⟩ := HRD.out.int_at (k := 0) (x := f) rfl
    injection had with had
    subst had
    rwa [Addr.add_zero'] at h9
  have cf2 : (w1.alloc (.cells #[.int .i64 0, .slice none 0 0] 40)).cell? ⟨g, 0, none⟩ = some (.int .i64 f) := (((Below.refl w1.heap.size w1).alloc (Nat.le_refl _) _).cell (block_lt_of_cell cf)).trans cf
  have hf64 : In64 f := HNS.out.fit f (by simp)
  have HF := Lib.hid hf64
  clear hln hxl hf64
  go_wp2
  go_cut [6] (fun p wx => ∃ G : Nat, p = .pointer (some ⟨G, 0, none⟩) ∧ w1.heap.size ≤ G ∧ Hid (Blk wx G 40 #[.int .i64 f, .slice (some ⟨g, o1, none⟩) (n - 1) (c - 1)]) ∧ Hid (Below w1.heap.size w1 wx))
  case first =>
   go_region_law (fail)
   all_goals go_wp2_with fail
   all_goals go_meet
   all_goals first | exact ⟨_, rfl, Nat.le_refl _, Lib.hid ((Blk.new w1 _ _).drew), Lib.hid (((Below.refl w1.heap.size w1).alloc (Nat.le_refl _) _).drew)⟩ | exact ⟨_, rfl, Nat.le_refl _, Lib.hid (Blk.new w1.drew _ _), Lib.hid ((Below.refl w1.heap.size w1).drew.alloc (Nat.le_refl _) _)⟩
  obtain ⟨G, rfl, hG, HKG, HBG⟩ := hcut
  have HZc := Lib.hid (HZ.out.below' HBG.out)
  have HBc := Lib.hid (HBB.out.trans (HBG.out.mono HBB.out.size))
  have HRc := Lib.hid (HRD.out.past HBG.out)
  have HRt := Lib.hid (show Rd wc wc.heap.size (some ⟨g, o1, none⟩) 1 (intRows xs) from by
    rcases HO1.out with h | h
    · exact .inl (List.eq_nil_of_length_eq_zero (by rw [intRows_length, HXL.out]; exact h))
    · rw [h]; exact rd_tail HRc.out)
  have HLc := Lib.hid (show LiesT wc (some ⟨g, o1, none⟩) (n - 1) xs from ⟨HXL.out, by have := HNM.out; omega, HRt.out, fun x hx => HNS.out.fit x (by simp [hx])⟩)
  have k0 : wc.cell? ⟨G, 0, none⟩ = some (.int .i64 f) := HKG.out.cell 0
  have k1 : wc.cell? ⟨G, 1, none⟩ = some (.slice (some ⟨g, o1, none⟩) (n - 1) (c - 1)) := HKG.out.cell 1
  clear cf cf2 HZ HBB HRD
  go_wp2_with fail
  refine (impl_IsLifeTable_any f (some ⟨g, o1, none⟩) (n - 1) (c - 1) xs wc HLc.out (by omega) HF.out).mono ?_
  rintro e w2 ⟨rfl, hb2⟩
  have HBB := Lib.hid (HBc.out.trans (hb2.mono HBc.out.size))
  have HZ := Lib.hid (HZc.out.below' hb2)
  have HK2 := Lib.hid (HKG.out.below' hb2)
  have HL2 := Lib.hid (HLc.out.past hb2)
  clear k0 k1 hb2 HZc HBc HRc HLc HKG HBG
  cases ht : tableB f xs
  · have HNO := Lib.hid (fun (g' : Int) (ys : List Int) (ht' : tableB g' ys = true) (hl : s.data.toList = numsL (g' :: ys)) => (show False from by
      have h4 := nums_is HNS.out ht' hl
      injection h4 with h5 h6
      rw [h5, h6, ht'] at ht
      cases ht))
    have k0 : w2.cell? ⟨G, 0, none⟩ = some (.int .i64 f) := HK2.out.cell 0
    have k1 : w2.cell? ⟨G, 1, none⟩ = some (.slice (some ⟨g, o1, none⟩) (n - 1) (c - 1)) := HK2.out.cell 1
    have z0 := HZ.out.frozen 0
    have z1 := HZ.out.frozen 1
    have c0 : w2.cell? ⟨w.heap.size, 0, none⟩ = some (.int .i64 0) := HZ.out.cell 0
    have c1 : w2.cell? ⟨w.heap.size, 1, none⟩ = some (.slice none 0 0) := HZ.out.cell 1
    go_wp2
    have hK := ((HZ.out.set_ 0 (.int .i64 (0))).set_ 1 (.slice none 0 0))
    have hBE := ((HBB.out.setCell (p := ⟨w.heap.size, 0, none⟩) (Nat.le_refl _) (.int .i64 (0))).setCell (p := ⟨w.heap.size, 1, none⟩) (Nat.le_refl _) (.slice none 0 0))
    generalize (w2.setCell ⟨w.heap.size, 0, none⟩ (.int .i64 (0))).setCell ⟨w.heap.size, 1, none⟩ (.slice none 0 0) = W9 at hK hBE ⊢
    have r0 : W9.cell? ⟨w.heap.size, 0, none⟩ = some (.int .i64 (0)) := hK.cell 0
    have r1 : W9.cell? ⟨w.heap.size, 1, none⟩ = some (.slice none 0 0) := hK.cell 1
    refine bodyPost_ret (v := .tuple #[.agg #[.int .i64 (0), .slice none 0 0], .bool false]) (by simp [results, Tryz.results49, go_sem, r0, r1]) rfl ?_
    exact ⟨0, none, 0, 0, false, [], rfl, liesT_nil _, Nat.le_refl _, by unfold In64; omega, fun h => (by cases h), fun _ => ⟨rfl, rfl⟩, fun g ys ht hl => (HNO.out g ys ht hl).elim, hBE⟩
  · have HTB := Lib.hid ht
    clear ht
    have k0 : w2.cell? ⟨G, 0, none⟩ = some (.int .i64 f) := HK2.out.cell 0
    have k1 : w2.cell? ⟨G, 1, none⟩ = some (.slice (some ⟨g, o1, none⟩) (n - 1) (c - 1)) := HK2.out.cell 1
    have z0 := HZ.out.frozen 0
    have z1 := HZ.out.frozen 1
    have c0 : w2.cell? ⟨w.heap.size, 0, none⟩ = some (.int .i64 0) := HZ.out.cell 0
    have c1 : w2.cell? ⟨w.heap.size, 1, none⟩ = some (.slice none 0 0) := HZ.out.cell 1
    go_wp2
    have hK := ((HZ.out.set_ 0 (.int .i64 (f))).set_ 1 (.slice (some ⟨g, o1, none⟩) (n - 1) (c - 1)))
    have hBE := ((HBB.out.setCell (p := ⟨w.heap.size, 0, none⟩) (Nat.le_refl _) (.int .i64 (f))).setCell (p := ⟨w.heap.size, 1, none⟩) (Nat.le_refl _) (.slice (some ⟨g, o1, none⟩) (n - 1) (c - 1)))
    have HL9 : LiesT ((w2.setCell ⟨w.heap.size, 0, none⟩ (.int .i64 f)).setCell ⟨w.heap.size, 1, none⟩ (.slice (some ⟨g, o1, none⟩) (n - 1) (c - 1))) (some ⟨g, o1, none⟩) (n - 1) xs := lies_far HL2.out hgw _ _
    generalize (w2.setCell ⟨w.heap.size, 0, none⟩ (.int .i64 (f))).setCell ⟨w.heap.size, 1, none⟩ (.slice (some ⟨g, o1, none⟩) (n - 1) (c - 1)) = W9 at hK hBE HL9 ⊢
    have r0 : W9.cell? ⟨w.heap.size, 0, none⟩ = some (.int .i64 (f)) := hK.cell 0
    have r1 : W9.cell? ⟨w.heap.size, 1, none⟩ = some (.slice (some ⟨g, o1, none⟩) (n - 1) (c - 1)) := hK.cell 1
    refine bodyPost_ret (v := .tuple #[.agg #[.int .i64 (f), .slice (some ⟨g, o1, none⟩) (n - 1) (c - 1)], .bool true]) (by simp [results, Tryz.results49, go_sem, r0, r1]) rfl ?_
    exact ⟨f, some ⟨g, o1, none⟩, n - 1, c - 1, true, xs, rfl, HL9, by omega, HF.out, fun _ => ⟨HTB.out, nums_text HNS.out HTB.out⟩, fun h => (by cases h), fun g' ys ht' hl => (by have h4 := nums_is HNS.out ht' hl; injection h4 with h5 h6; exact ⟨h5, h6, rfl⟩), hBE⟩

set_option maxHeartbeats 4000000 in
set_option maxRecDepth 100000 in
theorem spec_ReadTable_any (s : ByteArray) (hs : s.size ≤ 100000) (w : World) :
    Calls Tryz.prog 51 #[.string s] w fun e w' => TabE s w w' e := by
  have HW0 := Lib.hid ((Below.refl w.heap.size w).alloc (Nat.le_refl _) (.cells #[.int .i64 0, .slice none 0 0] 40))
  have HZ0 := Lib.hid (Blk.new w 40 #[.int .i64 0, .slice none 0 0])
  go_enter Tryz.func51, Tryz.ntmps51
  go_wp2_with fail
  generalize w.alloc _ = W at HW0 HZ0 ⊢
  have hWz : w.heap.size < W.heap.size := HZ0.out.lt
  refine (spec_l01Split_any s 32 hs W).mono ?_
  rintro e wA ⟨A1, m1, c1, rfl, hm1, hRA, hbA⟩
  have HBA := Lib.hid hbA
  have hWA : w.heap.size < wA.heap.size := Nat.lt_of_lt_of_le hWz hbA.size
  have hml : m1 ≤ 1000000 := by
    have h1 := List.count_le_length (a := (32 : UInt8)) (l := s.data.toList)
    have h2 : s.data.toList.length = s.size := rfl
    rw [cutL_len] at hm1
    omega
  have HM1 := Lib.hid hm1
  clear hbA hm1
  go_wp2_with fail
  refine (spec_l01Numbers_any A1 m1 c1 (cutL 32 s.data.toList) wA HM1.out.symm hml hRA.rd).mono ?_
  rintro e w1 ⟨A, n, c, b, ns, rfl, hR, hyes, hno, hb2⟩
  have hb := HBA.out.trans (hb2.mono HBA.out.size)
  clear hRA hb2 HBA
  have HR := Lib.hid hR
  have HBB := Lib.hid (HW0.out.trans (hb.mono HW0.out.size))
  have HZ := Lib.hid (HZ0.out.below' hb)
  have hwl : w.heap.size < w1.heap.size := HZ.out.lt
  have HY := Lib.hid hyes
  have HN := Lib.hid hno
  have hln : ns.length = n := by have := hR.len; rwa [intRows_length] at this
  clear hR hb hyes hno HW0 HZ0
  cases b
  · have HNO := Lib.hid (fun (g : Int) (ys : List Int) (ht : tableB g ys = true) (hl : s.data.toList = numsL (g :: ys)) => (show False from (HN.out rfl).2 _ (table_words ht hl).2.1 (table_words ht hl).1))
    have z0 := HZ.out.frozen 0
    have z1 := HZ.out.frozen 1
    have c0 : w1.cell? ⟨w.heap.size, 0, none⟩ = some (.int .i64 0) := HZ.out.cell 0
    have c1 : w1.cell? ⟨w.heap.size, 1, none⟩ = some (.slice none 0 0) := HZ.out.cell 1
    go_wp2
    have hK := ((HZ.out.set_ 0 (.int .i64 (0))).set_ 1 (.slice none 0 0))
    have hBE := ((HBB.out.setCell (p := ⟨w.heap.size, 0, none⟩) (Nat.le_refl _) (.int .i64 (0))).setCell (p := ⟨w.heap.size, 1, none⟩) (Nat.le_refl _) (.slice none 0 0))
    generalize (w1.setCell ⟨w.heap.size, 0, none⟩ (.int .i64 (0))).setCell ⟨w.heap.size, 1, none⟩ (.slice none 0 0) = W9 at hK hBE ⊢
    have r0 : W9.cell? ⟨w.heap.size, 0, none⟩ = some (.int .i64 (0)) := hK.cell 0
    have r1 : W9.cell? ⟨w.heap.size, 1, none⟩ = some (.slice none 0 0) := hK.cell 1
    refine bodyPost_ret (v := .tuple #[.agg #[.int .i64 (0), .slice none 0 0], .bool false]) (by simp [results, Tryz.results51, go_sem, r0, r1]) rfl ?_
    exact ⟨0, none, 0, 0, false, [], rfl, liesT_nil _, Nat.le_refl _, by unfold In64; omega, fun h => (by cases h), fun _ => ⟨rfl, rfl⟩, fun g ys ht hl => (HNO.out g ys ht hl).elim, hBE⟩
  have HNS := Lib.hid (HY.out rfl)
  have hlw : ns.length = (cutL 32 s.data.toList).length := HNS.out.len
  have hwp := List.length_pos_iff.2 (cutL_ne 32 s.data.toList)
  by_cases h2 : n < 2
  · have h2i : (n : Int) < 2 := by omega
    have HNO := Lib.hid (fun (g : Int) (ys : List Int) (ht : tableB g ys = true) (hl : s.data.toList = numsL (g :: ys)) => (show False from by
      have h3 := (table_words ht hl).2.2
      have h4 := nums_is HNS.out ht hl
      rw [← h4] at h3
      omega))
    have z0 := HZ.out.frozen 0
    have z1 := HZ.out.frozen 1
    have c0 : w1.cell? ⟨w.heap.size, 0, none⟩ = some (.int .i64 0) := HZ.out.cell 0
    have c1 : w1.cell? ⟨w.heap.size, 1, none⟩ = some (.slice none 0 0) := HZ.out.cell 1
    go_wp2
    have hK := ((HZ.out.set_ 0 (.int .i64 (0))).set_ 1 (.slice none 0 0))
    have hBE := ((HBB.out.setCell (p := ⟨w.heap.size, 0, none⟩) (Nat.le_refl _) (.int .i64 (0))).setCell (p := ⟨w.heap.size, 1, none⟩) (Nat.le_refl _) (.slice none 0 0))
    generalize (w1.setCell ⟨w.heap.size, 0, none⟩ (.int .i64 (0))).setCell ⟨w.heap.size, 1, none⟩ (.slice none 0 0) = W9 at hK hBE ⊢
    have r0 : W9.cell? ⟨w.heap.size, 0, none⟩ = some (.int .i64 (0)) := hK.cell 0
    have r1 : W9.cell? ⟨w.heap.size, 1, none⟩ = some (.slice none 0 0) := hK.cell 1
    refine bodyPost_ret (v := .tuple #[.agg #[.int .i64 (0), .slice none 0 0], .bool false]) (by simp [results, Tryz.results51, go_sem, r0, r1]) rfl ?_
    exact ⟨0, none, 0, 0, false, [], rfl, liesT_nil _, Nat.le_refl _, by unfold In64; omega, fun h => (by cases h), fun _ => ⟨rfl, rfl⟩, fun g ys ht hl => (HNO.out g ys ht hl).elim, hBE⟩
  have h2i : ¬ (n : Int) < 2 := by omega
  have h1 : 1 ≤ n := by omega
  clear hlw hwp
  obtain ⟨f, xs, rfl⟩ : ∃ f xs, ns = f :: xs := by
    match ns, hln with
    | [], h => rw [List.length_nil] at h; omega
    | f :: xs, _ => exact ⟨f, xs, rfl⟩
  have HLN := Lib.hid hln
  have hxl : xs.length = n - 1 := by rw [List.length_cons] at hln; omega
  have HXL := Lib.hid hxl
  have hnc : n ≤ c := cap_of HR.out
  have HNM := Lib.hid (show n ≤ 1048577 from by
    have h4 := HNS.out.len
    have h5 : (cutL 32 s.data.toList).length ≤ 100001 := by
      rw [cutL_len]
      have h1 := List.count_le_length (a := (32 : UInt8)) (l := s.data.toList)
      have h2 : s.data.toList.length = s.size := rfl
      omega
    rw [h4] at hln
    omega)
  obtain ⟨g, _, rfl, hg0, _, _, _⟩ := HR.out.at_ (by omega)
  have hgw : w.heap.size < g := Nat.lt_of_lt_of_le hWA hg0
  have hn0 : 0 < n := by omega
  have h1i : (1 : Int) ≤ (n : Int) := by omega
  obtain ⟨o1, hif, ho1⟩ : ∃ o1 : Nat, (if c = 1 then (some ⟨g, 0, none⟩ : Option Addr) else some ⟨g, 1, none⟩) = some ⟨g, o1, none⟩ ∧ (n - 1 = 0 ∨ o1 = 1) := by
    by_cases hc : c = 1
    · exact ⟨0, by rw [if_pos hc], .inl (by omega)⟩
    · exact ⟨1, by rw [if_neg hc], .inr rfl⟩
  have HO1 := Lib.hid ho1
  clear ho1
  have HRD := Lib.hid HR.out.rd
  have cf : w1.cell? ⟨g, 0, none⟩ = some (.int .i64 f) := by
    obtain ⟨ad, had, _, h9⟩ := HRD.out.int_at (k := 0) (x := f) rfl
    injection had with had
    subst had
    rwa [Addr.add_zero'] at h9
  have cf2 : (w1.alloc (.cells #[.int .i64 0, .slice none 0 0] 40)).cell? ⟨g, 0, none⟩ = some (.int .i64 f) := (((Below.refl w1.heap.size w1).alloc (Nat.le_refl _) _).cell (block_lt_of_cell cf)).trans cf
  have hf64 : In64 f := HNS.out.fit f (by simp)
  have HF := Lib.hid hf64
  clear hln hxl hf64
  go_wp2
  go_cut [6] (fun p wx => ∃ G : Nat, p = .pointer (some ⟨G, 0, none⟩) ∧ w1.heap.size ≤ G ∧ Hid (Blk wx G 40 #[.int .i64 f, .slice (some ⟨g, o1, none⟩) (n - 1) (c - 1)]) ∧ Hid (Below w1.heap.size w1 wx))
  case first =>
   go_region_law (fail)
   all_goals go_wp2_with fail
   all_goals go_meet
   all_goals first | exact ⟨_, rfl, Nat.le_refl _, Lib.hid ((Blk.new w1 _ _).drew), Lib.hid (((Below.refl w1.heap.size w1).alloc (Nat.le_refl _) _).drew)⟩ | exact ⟨_, rfl, Nat.le_refl _, Lib.hid (Blk.new w1.drew _ _), Lib.hid ((Below.refl w1.heap.size w1).drew.alloc (Nat.le_refl _) _)⟩
  obtain ⟨G, rfl, hG, HKG, HBG⟩ := hcut
  have HZc := Lib.hid (HZ.out.below' HBG.out)
  have HBc := Lib.hid (HBB.out.trans (HBG.out.mono HBB.out.size))
  have HRc := Lib.hid (HRD.out.past HBG.out)
  have HRt := Lib.hid (show Rd wc wc.heap.size (some ⟨g, o1, none⟩) 1 (intRows xs) from by
    rcases HO1.out with h | h
    · exact .inl (List.eq_nil_of_length_eq_zero (by rw [intRows_length, HXL.out]; exact h))
    · rw [h]; exact rd_tail HRc.out)
  have HLc := Lib.hid (show LiesT wc (some ⟨g, o1, none⟩) (n - 1) xs from ⟨HXL.out, by have := HNM.out; omega, HRt.out, fun x hx => HNS.out.fit x (by simp [hx])⟩)
  have k0 : wc.cell? ⟨G, 0, none⟩ = some (.int .i64 f) := HKG.out.cell 0
  have k1 : wc.cell? ⟨G, 1, none⟩ = some (.slice (some ⟨g, o1, none⟩) (n - 1) (c - 1)) := HKG.out.cell 1
  clear cf cf2 HZ HBB HRD
  go_wp2_with fail
  refine (spec_IsLifeTable_any f (some ⟨g, o1, none⟩) (n - 1) (c - 1) xs wc HLc.out (by omega) HF.out).mono ?_
  rintro e w2 ⟨rfl, hb2⟩
  have HBB := Lib.hid (HBc.out.trans (hb2.mono HBc.out.size))
  have HZ := Lib.hid (HZc.out.below' hb2)
  have HK2 := Lib.hid (HKG.out.below' hb2)
  have HL2 := Lib.hid (HLc.out.past hb2)
  clear k0 k1 hb2 HZc HBc HRc HLc HKG HBG
  cases ht : tableB f xs
  · have HNO := Lib.hid (fun (g' : Int) (ys : List Int) (ht' : tableB g' ys = true) (hl : s.data.toList = numsL (g' :: ys)) => (show False from by
      have h4 := nums_is HNS.out ht' hl
      injection h4 with h5 h6
      rw [h5, h6, ht'] at ht
      cases ht))
    have k0 : w2.cell? ⟨G, 0, none⟩ = some (.int .i64 f) := HK2.out.cell 0
    have k1 : w2.cell? ⟨G, 1, none⟩ = some (.slice (some ⟨g, o1, none⟩) (n - 1) (c - 1)) := HK2.out.cell 1
    have z0 := HZ.out.frozen 0
    have z1 := HZ.out.frozen 1
    have c0 : w2.cell? ⟨w.heap.size, 0, none⟩ = some (.int .i64 0) := HZ.out.cell 0
    have c1 : w2.cell? ⟨w.heap.size, 1, none⟩ = some (.slice none 0 0) := HZ.out.cell 1
    go_wp2
    have hK := ((HZ.out.set_ 0 (.int .i64 (0))).set_ 1 (.slice none 0 0))
    have hBE := ((HBB.out.setCell (p := ⟨w.heap.size, 0, none⟩) (Nat.le_refl _) (.int .i64 (0))).setCell (p := ⟨w.heap.size, 1, none⟩) (Nat.le_refl _) (.slice none 0 0))
    generalize (w2.setCell ⟨w.heap.size, 0, none⟩ (.int .i64 (0))).setCell ⟨w.heap.size, 1, none⟩ (.slice none 0 0) = W9 at hK hBE ⊢
    have r0 : W9.cell? ⟨w.heap.size, 0, none⟩ = some (.int .i64 (0)) := hK.cell 0
    have r1 : W9.cell? ⟨w.heap.size, 1, none⟩ = some (.slice none 0 0) := hK.cell 1
    refine bodyPost_ret (v := .tuple #[.agg #[.int .i64 (0), .slice none 0 0], .bool false]) (by simp [results, Tryz.results51, go_sem, r0, r1]) rfl ?_
    exact ⟨0, none, 0, 0, false, [], rfl, liesT_nil _, Nat.le_refl _, by unfold In64; omega, fun h => (by cases h), fun _ => ⟨rfl, rfl⟩, fun g ys ht hl => (HNO.out g ys ht hl).elim, hBE⟩
  · have HTB := Lib.hid ht
    clear ht
    have k0 : w2.cell? ⟨G, 0, none⟩ = some (.int .i64 f) := HK2.out.cell 0
    have k1 : w2.cell? ⟨G, 1, none⟩ = some (.slice (some ⟨g, o1, none⟩) (n - 1) (c - 1)) := HK2.out.cell 1
    have z0 := HZ.out.frozen 0
    have z1 := HZ.out.frozen 1
    have c0 : w2.cell? ⟨w.heap.size, 0, none⟩ = some (.int .i64 0) := HZ.out.cell 0
    have c1 : w2.cell? ⟨w.heap.size, 1, none⟩ = some (.slice none 0 0) := HZ.out.cell 1
    go_wp2
    have hK := ((HZ.out.set_ 0 (.int .i64 (f))).set_ 1 (.slice (some ⟨g, o1, none⟩) (n - 1) (c - 1)))
    have hBE := ((HBB.out.setCell (p := ⟨w.heap.size, 0, none⟩) (Nat.le_refl _) (.int .i64 (f))).setCell (p := ⟨w.heap.size, 1, none⟩) (Nat.le_refl _) (.slice (some ⟨g, o1, none⟩) (n - 1) (c - 1)))
    have HL9 : LiesT ((w2.setCell ⟨w.heap.size, 0, none⟩ (.int .i64 f)).setCell ⟨w.heap.size, 1, none⟩ (.slice (some ⟨g, o1, none⟩) (n - 1) (c - 1))) (some ⟨g, o1, none⟩) (n - 1) xs := lies_far HL2.out hgw _ _
    generalize (w2.setCell ⟨w.heap.size, 0, none⟩ (.int .i64 (f))).setCell ⟨w.heap.size, 1, none⟩ (.slice (some ⟨g, o1, none⟩) (n - 1) (c - 1)) = W9 at hK hBE HL9 ⊢
    have r0 : W9.cell? ⟨w.heap.size, 0, none⟩ = some (.int .i64 (f)) := hK.cell 0
    have r1 : W9.cell? ⟨w.heap.size, 1, none⟩ = some (.slice (some ⟨g, o1, none⟩) (n - 1) (c - 1)) := hK.cell 1
    refine bodyPost_ret (v := .tuple #[.agg #[.int .i64 (f), .slice (some ⟨g, o1, none⟩) (n - 1) (c - 1)], .bool true]) (by simp [results, Tryz.results51, go_sem, r0, r1]) rfl ?_
    exact ⟨f, some ⟨g, o1, none⟩, n - 1, c - 1, true, xs, rfl, HL9, by omega, HF.out, fun _ => ⟨HTB.out, nums_text HNS.out HTB.out⟩, fun h => (by cases h), fun g' ys ht' hl => (by have h4 := nums_is HNS.out ht' hl; injection h4 with h5 h6; exact ⟨h5, h6, rfl⟩), hBE⟩
end Go.Proofs.YtlbllonpodckgaaGreatDoor
