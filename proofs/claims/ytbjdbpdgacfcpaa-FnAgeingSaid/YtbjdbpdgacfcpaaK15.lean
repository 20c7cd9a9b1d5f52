/- Parts of a proof, one after another: Adds, Age. No condition. -/
import Derived.Test.YtbjdbpdgacfcpaaK1
import Derived.Test.YtbjdbpdgacfcpaaK6
import Derived.Test.YtbjdbpdgacfcpaaK10
import Derived.Test.YtbjdbpdgacfcpaaK13
import Derived.Test.YtbjdbpdgacfcpaaK14
import Derived.Lib.SliceRun
/- Bonuses added to the policies of a portfolio: the program's and the reference's contracts. -/
section
namespace Go.Proofs.Ytbjdbpdgacfcpaa
open Go.RowKit Go.BigFrame

theorem adds_small (b : Bas) (xs : List Holding) (ys : List Int) : (addsP b xs ys).1.length ≤ 1048576 := by
  unfold addsP
  split
  · rename_i h
    have := (port_hold h).1
    split
    · split
      · simp [addH]; omega
      · simp
    · simp
  · simp
/-- the first k are new, the others old -/
def partH {α : Type} (new old : List α) (k : Nat) : List α := new.take k ++ old.drop k
theorem partH_zero {α : Type} (new old : List α) : partH new old 0 = old := by simp [partH]
theorem partH_all {α : Type} {new old : List α} {n : Nat} (h1 : new.length = n) (h2 : old.length = n) : partH new old n = new := by
  unfold partH; rw [List.take_of_length_le (by omega), List.drop_of_length_le (by omega), List.append_nil]
theorem partH_get {α : Type} {new old : List α} {k : Nat} {x : α} (hl : new.length = old.length) (h : old[k]? = some x) : (partH new old k)[k]? = some x := by
  have hk := (List.getElem?_eq_some_iff.1 h).1
  unfold partH
  rw [List.getElem?_append_right (by simp; omega)]
  simp [Nat.min_eq_left (show k ≤ new.length by omega), h]
theorem partH_next {α : Type} {new old : List α} {k : Nat} {z : α} (hl : new.length = old.length) (h : new[k]? = some z) : (partH new old k).set k z = partH new old (k + 1) := by
  have hk := (List.getElem?_eq_some_iff.1 h).1
  have e : k - (new.take k).length = 0 := by simp; omega
  unfold partH
  rw [List.set_append_right _ _ (by simp; omega), take_succ_snoc h, List.drop_eq_getElem_cons (show k < old.length by omega), e, List.set_cons_zero, List.append_assoc]
  rfl
theorem addH_len {b : Bas} {xs : List Holding} {ys : List Int} {n : Nat} (h1 : xs.length = n) (h2 : ys.length = n) : (addH b xs ys).length = n := by simp [addH, h1, h2]
theorem plus_zero (x : Holding) : x.plus 0 = x := by simp [Holding.plus]
theorem partH_done {α : Type} {new old : List α} {k : Nat} {z : α} (h : new[k]? = some z) : (partH new old (k + 1))[k]? = some z := by
  have hk := (List.getElem?_eq_some_iff.1 h).1
  unfold partH
  rw [List.getElem?_append_left (by simp; omega), List.getElem?_take, if_pos (by omega), h]
theorem List.set_getElem_self' {α : Type} {xs : List α} {k : Nat} {x : α} (h : xs[k]? = some x) : xs.set k x = xs := by
  obtain ⟨hk, rfl⟩ := List.getElem?_eq_some_iff.1 h
  exact List.set_getElem_self hk
theorem plus_row (x : Holding) (q : Int) : x.row.set 3 (.int .i64 (x.sum + q)) = (x.plus q).row := by simp [Holding.row, Holding.plus]
theorem holdingRows_set (xs : List Holding) (k : Nat) (z : Holding) : holdingRows (xs.set k z) = (holdingRows xs).set k z.row := by simp [holdingRows, List.map_set]
theorem holdingRows_snoc (xs : List Holding) (z : Holding) : holdingRows (xs ++ [z]) = holdingRows xs ++ [z.row] := by simp [holdingRows]
theorem Holding.parts7 : ∃ i, Try.prog.info? 37 = some i ∧ i.zero = some (.agg #[.int .i64 0, .int .i64 0, .int .i64 0, .int .i64 0, .int .i64 0, .int .i64 0, .int .i64 0]) ∧ i.size = 7 ∧ i.bytes = 56 := info_parts Holding.info
theorem holdingRows_one {xs : List Holding} : ∀ r ∈ holdingRows xs, ∀ u ∈ r, u.oneCell' = true := by
  intro r hr u hu; obtain ⟨x, _, rfl⟩ := List.mem_map.1 hr; exact x.oneCell u hu

set_option maxHeartbeats 1000000 in
theorem cloneHoldings_any (A : Option Addr) (n cap : Nat) (xs : List Holding) (w : World) (hl : xs.length = n) (hn : n ≤ 1048576) (hX : Rd w w.heap.size A 7 (holdingRows xs)) :
    Calls Try.prog 60 #[.slice A n cap] w fun e w' => ∃ A' c', e = .returned (.slice A' n c') ∧ Res w.heap.size w' 37 7 A' n c' (holdingRows xs) ∧ Below w.heap.size w w' := by
  obtain ⟨i0, hi0, hz0, hz1, hz2⟩ := Holding.parts7
  have HX := Lib.hid hX; clear hX
  have HL := Lib.hid hl; clear hl
  have HI := Lib.hid hi0; clear hi0
  rcases A with _ | ad
  · have hx0 : xs = [] := by
      rcases HX.out with h | ⟨ad, e, _⟩
      · simpa [holdingRows] using h
      · cases e
    subst hx0
    have hn0 : n = 0 := HL.out.symm
    subst hn0
    have heq := fun W => Go.Lib.run_eql_slice_nil (P := Try.prog) W 29 37 none 0 cap 0 0 Try.underlying29
    go_enter Try.func60, Try.ntmps60
    go_wp2
    go_ret
    exact ⟨none, 0, rfl, Res.nil_, Below.refl _ _⟩
  · have heq := fun W => Go.Lib.run_eql_slice_nil (P := Try.prog) W 29 37 (some ad) n cap 0 0 Try.underlying29
    go_enter Try.func60, Try.ntmps60
    have hb1 : Below w.heap.size w (w.alloc (.cells #[] 37)) := (Below.refl _ _).alloc (Nat.le_refl _) _
    have HR0 := Lib.hid (Res.zero w w.heap.size 37 7 (Nat.le_refl _))
    have HX1 := Lib.hid (HX.out.past hb1)
    go_wp2_with (first | (refine wpList_append_res _ rfl _ _ 29 rfl w.heap.size 37 i0 _ 7 56 Try.underlying29 HI.out hz0 hz1 hz2 rfl (by omega) _ 0 0 [] rfl HR0.out _ _ n cap (holdingRows xs) rfl (fun h => by cases h) HX1.out (by rw [holdingRows_length, HL.out]) (holdingRows_all xs) holdingRows_one (by omega) (by omega) (by simp) ?_))
    intro A' c' w2 hR hb2
    have HR := Lib.hid hR; clear hR
    go_wp2
    go_ret
    exact ⟨A', c', rfl, by simpa using HR.out, hb1.trans (hb2.mono (by simp))⟩


set_option maxRecDepth 100000 in
set_option maxHeartbeats 8000000 in
theorem impl_AddBonuses_any (b : Bas) (A : Option Addr) (n cap : Nat) (H : Option Addr) (m hcap : Nat) (xs : List Holding) (Y : Option Addr) (my ycap : Nat) (ys : List Int) (w : World) (hB : BasT w A n cap b) (hl : xs.length = m) (hm : m ≤ 1048576) (hX : Rd w w.heap.size H 7 (holdingRows xs)) (hf : ∀ x ∈ xs, x.fits) (hl2 : ys.length = my) (_hm2 : my ≤ 1048576) (hY : Rd w w.heap.size Y 1 (intRows ys)) (_hfy : ∀ x ∈ ys, In64 x) :
    Calls Try.prog 10 #[.agg #[.int .i64 b.first, .slice A n cap, .int .i64 b.rate], .slice H m hcap, .slice Y my ycap] w fun e w' => ∃ A' n' c', e = .returned (.tuple #[.slice A' n' c', .int .i64 (addsP b xs ys).2.1, .int .i64 (addsP b xs ys).2.2]) ∧ Res w.heap.size w' 37 7 A' n' c' (holdingRows (addsP b xs ys).1) ∧ Below w.heap.size w w' := by
  have hbw : Below w.heap.size w (w.alloc (.cells #[.int .i64 b.first, .slice A n cap, .int .i64 b.rate] 28)) := (Below.refl _ w).alloc (Nat.le_refl _) _
  have HB := Lib.hid (Blk.new w 28 #[.int .i64 b.first, .slice A n cap, .int .i64 b.rate])
  have HBT := Lib.hid (hB.past hbw); clear hB
  have HX := Lib.hid (hX.past hbw); clear hX
  have HY := Lib.hid (hY.past hbw); clear hY
  have HL := Lib.hid hl; clear hl
  have HL2 := Lib.hid hl2; clear hl2
  have HF := Lib.hid hf; clear hf
  have hcB0 := Lib.hid (Blk.agg (cs := [.int .i64 b.first, .slice A n cap, .int .i64 b.rate]) HB.out 0 [.int .i64 b.first, .slice A n cap, .int .i64 b.rate] rfl)
  cases hp : portB b xs
  · have Q := Lib.hid (show addsP b xs ys = ([], 0, 1) by simp [addsP, hp])
    go_enter Try.func10, Try.ntmps10
    go_wp2_with (refine wpList_load_agg rfl 28 _ rfl ⟨w.heap.size, 0, none⟩ rfl [.int .i64 b.first, .slice A n cap, .int .i64 b.rate] hcB0.out _ Try.underlying28 rfl Bas.size ?_)
    refine (impl_IsPortfolio_any b A n cap H m hcap xs _ HBT.out HL.out hm HX.out HF.out).mono ?_
    rw [hp]
    rintro e w1 ⟨rfl, hb1⟩
    have hb01 := hbw.trans (hb1.mono hbw.size)
    go_wp2
    go_ret3
    exact ⟨none, 0, 0, by rw [Q.out]; rfl, by rw [Q.out]; exact Res.nil_, hb01⟩
  obtain ⟨h30, hh⟩ := port_hold hp
  have hm30 : m ≤ 30 := by have := HL.out; omega
  have HH := Lib.hid hh
  by_cases hlen : my = m
  rotate_left
  · have Q := Lib.hid (show addsP b xs ys = ([], 0, 2) by
      unfold addsP; rw [if_pos hp, if_neg (fun h => hlen (by have h1 := h.1; rw [HL.out, HL2.out] at h1; exact h1))])
    have hne : ((my : Int) != (m : Int)) = true := by simp; omega
    clear hh
    go_enter Try.func10, Try.ntmps10
    go_wp2_with (refine wpList_load_agg rfl 28 _ rfl ⟨w.heap.size, 0, none⟩ rfl [.int .i64 b.first, .slice A n cap, .int .i64 b.rate] hcB0.out _ Try.underlying28 rfl Bas.size ?_)
    refine (impl_IsPortfolio_any b A n cap H m hcap xs _ HBT.out HL.out hm HX.out HF.out).mono ?_
    rw [hp]
    rintro e w1 ⟨rfl, hb1⟩
    have hb01 := hbw.trans (hb1.mono hbw.size)
    go_wp2
    go_ret3
    exact ⟨none, 0, 0, by rw [Q.out]; rfl, by rw [Q.out]; exact Res.nil_, hb01⟩
  have HL2' : Hid (ys.length = m) := Lib.hid (by rw [HL2.out, hlen])
  have hmm : ((my : Int) != (m : Int)) = false := by simp; omega
  rw [hlen]
  rw [hlen] at hmm
  clear hlen HL2
  cases ha : allR ys 0 1000000000
  · have Q := Lib.hid (show addsP b xs ys = ([], 0, 2) by
      unfold addsP; rw [if_pos hp, if_neg (fun h => by have h2 := h.2; unfold allR at ha; rw [ha] at h2; cases h2)])
    have HAL := Lib.hid ha; clear hh ha
    go_enter Try.func10, Try.ntmps10
    go_wp2_with (refine wpList_load_agg rfl 28 _ rfl ⟨w.heap.size, 0, none⟩ rfl [.int .i64 b.first, .slice A n cap, .int .i64 b.rate] hcB0.out _ Try.underlying28 rfl Bas.size ?_)
    refine (impl_IsPortfolio_any b A n cap H m hcap xs _ HBT.out HL.out hm HX.out HF.out).mono ?_
    rw [hp]
    rintro e w1 ⟨rfl, hb1⟩
    have hb01 := hbw.trans (hb1.mono hbw.size)
    go_wp2_with (go_at_call 59; refine (impl_allIn_any Y m ycap ys 0 1000000000 _ HL2'.out hm (HY.out.past hb1)).mono ?_; rw [HAL.out]; rintro e w2 ⟨rfl, hb2⟩)
    go_ret3
    exact ⟨none, 0, 0, by rw [Q.out]; rfl, by rw [Q.out]; exact Res.nil_, hb01.trans (hb2.mono hb01.size)⟩
  have HAL := Lib.hid ha
  have HYB := Lib.hid (fun y (hy : y ∈ ys) => (inR_true.1 (List.all_eq_true.1 ha y hy) : 0 ≤ y ∧ y ≤ 1000000000))
  have QA := Lib.hid (show addsP b xs ys = if addB b xs ys = true then (addH b xs ys, addLeft b xs ys, 0) else ([], 0, 3) by
    unfold addsP; rw [if_pos hp, if_pos ⟨by rw [HL.out, HL2'.out], ha⟩])
  have HLB := Lib.hid (leftAt_bound h30 hh HYB.out)
  have HLN := Lib.hid (addH_len (b := b) HL.out HL2'.out)
  clear hh ha
  obtain ⟨i0, hi0, hz0, hz1, hz2⟩ := Holding.parts7
  have HI := Lib.hid (And.intro hi0 (And.intro hz0 (And.intro hz1 hz2))); clear hi0 hz0 hz1 hz2

  go_enter Try.func10, Try.ntmps10
  go_wp2_with (refine wpList_load_agg rfl 28 _ rfl ⟨w.heap.size, 0, none⟩ rfl [.int .i64 b.first, .slice A n cap, .int .i64 b.rate] hcB0.out _ Try.underlying28 rfl Bas.size ?_)
  refine (impl_IsPortfolio_any b A n cap H m hcap xs _ HBT.out HL.out hm HX.out HF.out).mono ?_
  rw [hp]
  rintro e w1 ⟨rfl, hb1⟩
  have hb01 := hbw.trans (hb1.mono hbw.size)
  go_wp2_with (first | (go_at_call 59; refine (impl_allIn_any Y m ycap ys 0 1000000000 _ HL2'.out hm (HY.out.past hb1)).mono ?_; rw [HAL.out]; rintro e w2 ⟨rfl, hb2⟩) | (go_at_call 60; fail))
  refine (cloneHoldings_any H m hcap xs _ HL.out hm ((HX.out.past hb1).past hb2)).mono ?_
  rintro e w3 ⟨O, oc, rfl, hR0, hb3⟩
  have HR0 := Lib.hid hR0; clear hR0
  have HB3 := Lib.hid (HB.out.below' hb1)
  have HBT3 := Lib.hid (HBT.out.past hb1)
  have HX3 := Lib.hid (HX.out.past hb1)
  have HY3 := Lib.hid (HY.out.past hb1)
  have hb13 := below_step hb2 hb3
  go_wp2
  go_loopw [10, 35] (fun l i wr => ∃ k : Nat, k ≤ m ∧ i = .int .i64 k ∧ l = .int .i64 (leftAt b xs ys k) ∧ Hid (((addH b xs ys).take k).all (fun h => decide (h.sum ≤ 100000000)) = true) ∧ Hid (Res w1.heap.size wr 37 7 O m oc (holdingRows (partH (addH b xs ys) xs k))) ∧ Below w1.heap.size w1 wr) (fun _ i _ => m - (intOf i).toNat)
  case atStart => exact ⟨0, by omega, rfl, rfl, Lib.hid rfl, Lib.hid (by rw [partH_zero]; exact HR0.out.more hb2.size), hb13⟩
  case round =>
    obtain ⟨k, hk, rfl, rfl, HOK, HR, hb⟩ := hrel
    by_cases hlt : ¬ k < m
    · have hkn : k = m := by omega
      subst hkn
      have Q := Lib.hid (show addsP b xs ys = (addH b xs ys, addLeft b xs ys, 0) by
        rw [QA.out, if_pos]
        have h := HOK.out
        rwa [List.take_of_length_le (by rw [HLN.out]; exact Nat.le_refl _)] at h)
      have QL := Lib.hid (show leftAt b xs ys k = addLeft b xs ys by unfold leftAt addLeft; rw [List.take_of_length_le (by simp [HL.out, HL2'.out])])
      go_wp2
      go_ret3
      refine ⟨O, k, oc, by rw [Q.out, QL.out]; rfl, ?_, hb01.trans (hb.mono hb01.size)⟩
      rw [Q.out]
      have h8 := HR.out
      rw [partH_all HLN.out HL.out] at h8
      exact h8.more (by have := hb01.size; exact this)
    · replace hlt : k < m := by omega
      obtain ⟨x, hx⟩ := get_of_lt (xs := xs) (k := k) (by rw [HL.out]; exact hlt)
      obtain ⟨y, hy⟩ := get_of_lt (xs := ys) (k := k) (by rw [HL2'.out]; exact hlt)
      obtain ⟨ad, rfl, had, _, hc⟩ := (HX3.out.past hb).at' (holdingRows_get hx)
      obtain ⟨ay, rfl, hay, hcy⟩ := (HY3.out.past hb).int_at hy
      have HA1 := Lib.hid (addH_get (b := b) hx hy)
      have HA2 := Lib.hid (leftAt_succ (b := b) hx hy)
      have HNO := Lib.hid (fun h => addB_no (b := b) hx hy h)
      have Hx := Lib.hid (HH.out x (List.mem_of_getElem? hx))
      have hyb := HYB.out y (List.mem_of_getElem? hy)
      obtain ⟨y0, y1⟩ := hyb
      obtain ⟨⟨q0, q1⟩, q2, q3, q4, q5⟩ := addP_bound Hx.out ⟨y0, y1⟩
      have P := pol_ok (hold_pol Hx.out)
      have s0 : 1 ≤ x.sum := P.sum0
      have s1 : x.sum ≤ 100000000 := P.sum1
      obtain ⟨⟨c0, c1⟩, _⟩ := hold_ok Hx.out
      clear P
      have HXG := Lib.hid hx; clear hx hy
      have Hc := Lib.hid hc; clear hc
      obtain ⟨l0, l1⟩ := HLB.out k
      obtain ⟨l2, l3⟩ := HLB.out (k + 1)
      rw [HA2.out] at l2 l3
      have hk63 : (k : Int) < 1048576 := by omega
      have hkm : (k : Int) < (m : Int) := by omega
      have hbn : Below wr.heap.size wr (wr.alloc (.cells #[.int .i64 x.kind, .int .i64 x.age, .int .i64 x.years, .int .i64 x.sum, .int .i64 x.load, .int .i64 x.year, .int .i64 x.count] 37)) := (Below.refl _ wr).alloc (Nat.le_refl _) _
      have hbN := below_step hb hbn
      have HBn := Lib.hid (HB3.out.below' hbN)
      have HBTn := Lib.hid (HBT3.out.past hbN)
      have HNn := Lib.hid (Blk.new wr 37 #[.int .i64 x.kind, .int .i64 x.age, .int .i64 x.years, .int .i64 x.sum, .int .i64 x.load, .int .i64 x.year, .int .i64 x.count])
      have c6 : (wr.alloc (.cells #[.int .i64 x.kind, .int .i64 x.age, .int .i64 x.years, .int .i64 x.sum, .int .i64 x.load, .int .i64 x.year, .int .i64 x.count] 37)).cell? ⟨wr.heap.size, 6, none⟩ = some (.int .i64 x.count) := HNn.out.cell 6
      have cy : (wr.alloc (.cells #[.int .i64 x.kind, .int .i64 x.age, .int .i64 x.years, .int .i64 x.sum, .int .i64 x.load, .int .i64 x.year, .int .i64 x.count] 37)).cell? (ay.add k) = some (.int .i64 y) := (hbn.cell (p := ay.add k) (by rw [block_of_add]; exact hay)).trans hcy
      have HRn := Lib.hid (HR.out.past hbn)
      by_cases hcn : x.count = 0
      · have HP0 := Lib.hid (show addP b x y = (0, 0) by unfold addP; rw [if_pos hcn])
        have HC0 := Lib.hid hcn
        have hz : (x.count == 0) = true := by simp [hcn]
        clear hcn
        go_wp2_with (refine wpList_load_agg rfl 37 _ rfl (ad.add (k * 7)) rfl [.int .i64 x.kind, .int .i64 x.age, .int .i64 x.years, .int .i64 x.sum, .int .i64 x.load, .int .i64 x.year, .int .i64 x.count] Hc.out _ Try.underlying37 rfl Holding.size ?_)
        go_roundw
        case rel =>
          refine ⟨k + 1, by omega, by go_num, by rw [HA2.out, HP0.out]; simp, Lib.hid (all_succ HOK.out HA1.out (by rw [HP0.out, plus_zero]; simpa using s1)), Lib.hid ?_, hbN⟩
          have h8 := HRn.out
          have h7 := partH_next (new := addH b xs ys) (old := xs) (by rw [HLN.out, HL.out]) HA1.out
          rw [HP0.out, plus_zero] at h7
          have h6 : (partH (addH b xs ys) xs k).set k x = partH (addH b xs ys) xs k := by
            have h5 := partH_get (new := addH b xs ys) (old := xs) (by rw [HLN.out, HL.out]) HXG.out
            exact List.set_getElem_self' h5
          rw [h6] at h7
          rw [← h7]; exact h8
        case measure => simp [intOf]; omega
      · have hc1 : 1 ≤ x.count := by omega
        have hz : (x.count == 0) = false := by simp [hcn]
        have HCN := Lib.hid hcn; clear hcn
        have hcB := Lib.hid (Blk.agg_past (cs := [.int .i64 b.first, .slice A n cap, .int .i64 b.rate]) HBn.out 0 [.int .i64 b.first, .slice A n cap, .int .i64 b.rate] rfl)
        have hcN := Lib.hid (Blk.agg_past (cs := [.int .i64 x.kind, .int .i64 x.age, .int .i64 x.years, .int .i64 x.sum, .int .i64 x.load, .int .i64 x.year, .int .i64 x.count]) HNn.out 0 [.int .i64 x.kind, .int .i64 x.age, .int .i64 x.years, .int .i64 x.sum, .int .i64 x.load, .int .i64 x.year, .int .i64 x.count] rfl)
        have gy := fun z : Past (wr.alloc (.cells #[.int .i64 x.kind, .int .i64 x.age, .int .i64 x.years, .int .i64 x.sum, .int .i64 x.load, .int .i64 x.year, .int .i64 x.count] 37)) => Past.cell cy z
        go_wp2_with (refine wpList_load_agg rfl 37 _ rfl (ad.add (k * 7)) rfl [.int .i64 x.kind, .int .i64 x.age, .int .i64 x.years, .int .i64 x.sum, .int .i64 x.load, .int .i64 x.year, .int .i64 x.count] Hc.out _ Try.underlying37 rfl Holding.size ?_)
        refine wp_region_past (by kernel_rfl) (by kernel_rfl) ?_
        repeat (first | (go_big_quiet_want; (first | (first | (refine quiet_load_agg 28 _ rfl ⟨w.heap.size, 0, none⟩ rfl [.int .i64 b.first, .slice A n cap, .int .i64 b.rate] hcB.out _ Try.underlying28 rfl Bas.size ?_) | (refine quiet_load_agg 37 _ rfl ⟨wr.heap.size, 0, none⟩ rfl [.int .i64 x.kind, .int .i64 x.age, .int .i64 x.years, .int .i64 x.sum, .int .i64 x.load, .int .i64 x.year, .int .i64 x.count] hcN.out _ Try.underlying37 rfl Holding.size ?_))); go_simp; go_big_quiet_on) | go_big_quiet_step ((go_at_call 61; exact past_call (impl_Holding_addition_any b A n cap x y _ (HBTn.out.at_past _) Hx.out hc1 ⟨y0, y1⟩))))
        refine wpQuiet_nil ?_
        rintro _ ⟨z, rfl⟩
        clear gy c6 cy hcy
        have hbZ := below_step hbN z.2
        have HNz := Lib.hid (HNn.out.below' z.2)
        obtain ⟨g, hg, hg1, hg2, hgc, hgz, hput⟩ := (HRn.out.past z.2).put (k := k) (j := 3) (holdingRows_get (partH_get (new := addH b xs ys) (old := xs) (by rw [HLN.out, HL.out]) HXG.out)) (by omega)
        have HPUT := Lib.hid hput; clear hput
        have HGW := Lib.hid (HR.out.lt hg).2
        subst hg
        have hgc3 := hgc (.int .i64 x.sum) rfl
        clear hgc
        go_upto_region 13 with (fail)
        have HW := Lib.hid (show Res w1.heap.size (z.1.setCell ⟨g, k * 7 + 3, none⟩ (.int .i64 (x.sum + (addP b x y).1))) 37 7 (some ⟨g, 0, none⟩) m oc (holdingRows (partH (addH b xs ys) xs (k + 1))) ∧ Blk (z.1.setCell ⟨g, k * 7 + 3, none⟩ (.int .i64 (x.sum + (addP b x y).1))) wr.heap.size 37 #[.int .i64 x.kind, .int .i64 x.age, .int .i64 x.years, .int .i64 x.sum, .int .i64 x.load, .int .i64 x.year, .int .i64 x.count] ∧ Below w1.heap.size w1 (z.1.setCell ⟨g, k * 7 + 3, none⟩ (.int .i64 (x.sum + (addP b x y).1))) from by
          refine ⟨?_, HNz.out.far (by show wr.heap.size ≠ g; have := HGW.out; omega) _, hbZ.setCell (by show w1.heap.size ≤ g; exact hg1) _⟩
          have h8 := HPUT.out (.int .i64 (x.sum + (addP b x y).1))
          rw [plus_row, ← holdingRows_set, partH_next (by rw [HLN.out, HL.out]) HA1.out] at h8
          exact h8)
        clear hgc3 hgz
        generalize (z.1.setCell ⟨g, k * 7 + 3, none⟩ (.int .i64 (x.sum + (addP b x y).1))) = W9 at HW ⊢
        obtain ⟨hR9, hN9, hb9⟩ := HW.out
        have HR9 := Lib.hid hR9
        have c6 : W9.cell? ⟨wr.heap.size, 6, none⟩ = some (.int .i64 x.count) := hN9.cell 6
        obtain ⟨g9, hg9, _, _, hc9, _, _⟩ := hR9.put (k := k) (j := 3) (holdingRows_get (partH_done HA1.out)) (by omega)
        obtain rfl : g9 = g := by injection hg9 with hg9; injection hg9 with hg9; exact hg9.symm
        have c3 : W9.cell? ⟨g9, k * 7 + 3, none⟩ = some (.int .i64 (x.sum + (addP b x y).1)) := hc9 _ rfl
        clear hR9 hN9 hc9 hg9 HW
        have hb9' := Lib.hid hb9; clear hb9
        have l4 : -4000000000000000000 ≤ leftAt b xs ys k + y - x.count * (addP b x y).2 := by omega
        have l5 : leftAt b xs ys k + y - x.count * (addP b x y).2 ≤ 4000000000000000000 := by omega
        by_cases hgt : 100000000 < x.sum + (addP b x y).1
        · have HB0 := Lib.hid (HNO.out hgt)
          have Q := Lib.hid (show addsP b xs ys = ([], 0, 3) by rw [QA.out, if_neg (by rw [HB0.out]; simp)])
          go_wp2
          go_ret3
          exact ⟨none, 0, 0, by rw [Q.out]; rfl, by rw [Q.out]; exact Res.nil_, hb01.trans (hb9'.out.mono hb01.size)⟩
        · have HNG := Lib.hid hgt
          go_wp2
          go_roundw
          case rel => exact ⟨k + 1, by omega, by go_num, by rw [HA2.out]; congr 1; omega, Lib.hid (all_succ HOK.out HA1.out (decide_eq_true (show x.sum + (addP b x y).1 ≤ 100000000 by have := HNG.out; omega))), HR9, hb9'.out⟩
          case measure => simp [intOf]; omega


set_option maxRecDepth 100000 in
set_option maxHeartbeats 8000000 in
theorem spec_AddBonuses_any (b : Bas) (A : Option Addr) (n cap : Nat) (H : Option Addr) (m hcap : Nat) (xs : List Holding) (Y : Option Addr) (my ycap : Nat) (ys : List Int) (w : World) (hB : BasT w A n cap b) (hl : xs.length = m) (hm : m ≤ 1048576) (hX : Rd w w.heap.size H 7 (holdingRows xs)) (hf : ∀ x ∈ xs, x.fits) (hl2 : ys.length = my) (_hm2 : my ≤ 1048576) (hY : Rd w w.heap.size Y 1 (intRows ys)) (_hfy : ∀ x ∈ ys, In64 x) :
    Calls Try.prog 11 #[.agg #[.int .i64 b.first, .slice A n cap, .int .i64 b.rate], .slice H m hcap, .slice Y my ycap] w fun e w' => ∃ A' n' c', e = .returned (.tuple #[.slice A' n' c', .int .i64 (addsP b xs ys).2.1, .int .i64 (addsP b xs ys).2.2]) ∧ Res w.heap.size w' 37 7 A' n' c' (holdingRows (addsP b xs ys).1) ∧ Below w.heap.size w w' := by
  have hbw : Below w.heap.size w (w.alloc (.cells #[.int .i64 b.first, .slice A n cap, .int .i64 b.rate] 28)) := (Below.refl _ w).alloc (Nat.le_refl _) _
  have HB := Lib.hid (Blk.new w 28 #[.int .i64 b.first, .slice A n cap, .int .i64 b.rate])
  have HBT := Lib.hid (hB.past hbw); clear hB
  have HX := Lib.hid (hX.past hbw); clear hX
  have HY := Lib.hid (hY.past hbw); clear hY
  have HL := Lib.hid hl; clear hl
  have HL2 := Lib.hid hl2; clear hl2
  have HF := Lib.hid hf; clear hf
  have hcB0 := Lib.hid (Blk.agg (cs := [.int .i64 b.first, .slice A n cap, .int .i64 b.rate]) HB.out 0 [.int .i64 b.first, .slice A n cap, .int .i64 b.rate] rfl)
  cases hp : portB b xs
  · have Q := Lib.hid (show addsP b xs ys = ([], 0, 1) by simp [addsP, hp])
    go_enter Try.func11, Try.ntmps11
    go_wp2_with (refine wpList_load_agg rfl 28 _ rfl ⟨w.heap.size, 0, none⟩ rfl [.int .i64 b.first, .slice A n cap, .int .i64 b.rate] hcB0.out _ Try.underlying28 rfl Bas.size ?_)
    refine (spec_IsPortfolio_any b A n cap H m hcap xs _ HBT.out HL.out hm HX.out HF.out).mono ?_
    rw [hp]
    rintro e w1 ⟨rfl, hb1⟩
    have hb01 := hbw.trans (hb1.mono hbw.size)
    go_wp2
    go_ret3
    exact ⟨none, 0, 0, by rw [Q.out]; rfl, by rw [Q.out]; exact Res.nil_, hb01⟩
  obtain ⟨h30, hh⟩ := port_hold hp
  have hm30 : m ≤ 30 := by have := HL.out; omega
  have HH := Lib.hid hh
  by_cases hlen : my = m
  rotate_left
  · have Q := Lib.hid (show addsP b xs ys = ([], 0, 2) by
      unfold addsP; rw [if_pos hp, if_neg (fun h => hlen (by have h1 := h.1; rw [HL.out, HL2.out] at h1; exact h1))])
    have hne : ((my : Int) != (m : Int)) = true := by simp; omega
    clear hh
    go_enter Try.func11, Try.ntmps11
    go_wp2_with (refine wpList_load_agg rfl 28 _ rfl ⟨w.heap.size, 0, none⟩ rfl [.int .i64 b.first, .slice A n cap, .int .i64 b.rate] hcB0.out _ Try.underlying28 rfl Bas.size ?_)
    refine (spec_IsPortfolio_any b A n cap H m hcap xs _ HBT.out HL.out hm HX.out HF.out).mono ?_
    rw [hp]
    rintro e w1 ⟨rfl, hb1⟩
    have hb01 := hbw.trans (hb1.mono hbw.size)
    go_wp2
    go_ret3
    exact ⟨none, 0, 0, by rw [Q.out]; rfl, by rw [Q.out]; exact Res.nil_, hb01⟩
  have HL2' : Hid (ys.length = m) := Lib.hid (by rw [HL2.out, hlen])
  have hmm : ((my : Int) != (m : Int)) = false := by simp; omega
  rw [hlen]
  rw [hlen] at hmm
  clear hlen HL2
  cases ha : allR ys 0 1000000000
  · have Q := Lib.hid (show addsP b xs ys = ([], 0, 2) by
      unfold addsP; rw [if_pos hp, if_neg (fun h => by have h2 := h.2; unfold allR at ha; rw [ha] at h2; cases h2)])
    have HAL := Lib.hid ha; clear hh ha
    go_enter Try.func11, Try.ntmps11
    go_wp2_with (refine wpList_load_agg rfl 28 _ rfl ⟨w.heap.size, 0, none⟩ rfl [.int .i64 b.first, .slice A n cap, .int .i64 b.rate] hcB0.out _ Try.underlying28 rfl Bas.size ?_)
    refine (spec_IsPortfolio_any b A n cap H m hcap xs _ HBT.out HL.out hm HX.out HF.out).mono ?_
    rw [hp]
    rintro e w1 ⟨rfl, hb1⟩
    have hb01 := hbw.trans (hb1.mono hbw.size)
    go_wp2_with (go_at_call 63; refine (spec_l01Within_any Y m ycap ys 30 0 1000000000 _ HL2'.out hm (HY.out.past hb1)).mono ?_; rw [HAL.out]; rintro e w2 ⟨rfl, rfl⟩)
    go_ret3
    exact ⟨none, 0, 0, by rw [Q.out]; rfl, by rw [Q.out]; exact Res.nil_, hb01⟩
  have HAL := Lib.hid ha
  have HYB := Lib.hid (fun y (hy : y ∈ ys) => (inR_true.1 (List.all_eq_true.1 ha y hy) : 0 ≤ y ∧ y ≤ 1000000000))
  have QA := Lib.hid (show addsP b xs ys = if addB b xs ys = true then (addH b xs ys, addLeft b xs ys, 0) else ([], 0, 3) by
    unfold addsP; rw [if_pos hp, if_pos ⟨by rw [HL.out, HL2'.out], ha⟩])
  have HLB := Lib.hid (leftAt_bound h30 hh HYB.out)
  have HLN := Lib.hid (addH_len (b := b) HL.out HL2'.out)
  clear hh ha
  obtain ⟨i0, hi0, hz0, hz1, hz2⟩ := Holding.parts7
  have HI := Lib.hid (And.intro hi0 (And.intro hz0 (And.intro hz1 hz2))); clear hi0 hz0 hz1 hz2

  go_enter Try.func11, Try.ntmps11
  go_wp2_with (refine wpList_load_agg rfl 28 _ rfl ⟨w.heap.size, 0, none⟩ rfl [.int .i64 b.first, .slice A n cap, .int .i64 b.rate] hcB0.out _ Try.underlying28 rfl Bas.size ?_)
  refine (spec_IsPortfolio_any b A n cap H m hcap xs _ HBT.out HL.out hm HX.out HF.out).mono ?_
  rw [hp]
  rintro e w1 ⟨rfl, hb1⟩
  have hb01 := hbw.trans (hb1.mono hbw.size)
  have hmi : (m : Int) ≤ 30 := by omega
  have HB3 := Lib.hid (HB.out.below' hb1)
  have HBT3 := Lib.hid (HBT.out.past hb1)
  have HX3 := Lib.hid (HX.out.past hb1)
  have HY3 := Lib.hid (HY.out.past hb1)
  have HR0 := Lib.hid (Res.zero w1 w1.heap.size 37 7 (Nat.le_refl _))
  have HL0 := Lib.hid (show leftAt b xs ys 0 = 0 by simp [leftAt])
  go_wp2_with (go_at_call 63; refine (spec_l01Within_any Y m ycap ys 30 0 1000000000 _ HL2'.out hm (HY.out.past hb1)).mono ?_; rw [HAL.out]; rintro e w2 ⟨rfl, rfl⟩)
  go_loopw [9, 10, 11] (fun o l i wr => ∃ (k : Nat) (O : Option Addr) (oc : Nat), k ≤ m ∧ i = .int .i64 k ∧ o = .slice O k oc ∧ l = .int .i64 (leftAt b xs ys k) ∧ Hid (((addH b xs ys).take k).all (fun h => decide (h.sum ≤ 100000000)) = true) ∧ Hid (Res w1.heap.size wr 37 7 O k oc (holdingRows ((addH b xs ys).take k))) ∧ Below w1.heap.size w1 wr) (fun _ _ i _ => m - (intOf i).toNat)
  case atStart => exact ⟨0, _, _, by omega, rfl, rfl, by rw [HL0.out], Lib.hid rfl, HR0, (Below.refl _ _).alloc (Nat.le_refl _) _⟩
  case round =>
    obtain ⟨k, O, oc, hk, rfl, rfl, rfl, HOK, HR, hb⟩ := hrel
    by_cases hlt : ¬ k < m
    · have hkn : k = m := by omega
      subst hkn
      have Q := Lib.hid (show addsP b xs ys = (addH b xs ys, addLeft b xs ys, 0) by
        rw [QA.out, if_pos]
        have h := HOK.out
        rwa [List.take_of_length_le (by rw [HLN.out]; exact Nat.le_refl _)] at h)
      have QL := Lib.hid (show leftAt b xs ys k = addLeft b xs ys by unfold leftAt addLeft; rw [List.take_of_length_le (by simp [HL.out, HL2'.out])])
      go_wp2
      go_ret3
      refine ⟨O, k, oc, by rw [Q.out, QL.out]; rfl, ?_, hb01.trans (hb.mono hb01.size)⟩
      rw [Q.out]
      have h8 := HR.out
      rw [List.take_of_length_le (by rw [HLN.out]; exact Nat.le_refl _)] at h8
      exact h8.more (by have := hb01.size; exact this)
    · replace hlt : k < m := by omega
      obtain ⟨x, hx⟩ := get_of_lt (xs := xs) (k := k) (by rw [HL.out]; exact hlt)
      obtain ⟨y, hy⟩ := get_of_lt (xs := ys) (k := k) (by rw [HL2'.out]; exact hlt)
      obtain ⟨ad, rfl, had, _, hc⟩ := (HX3.out.past hb).at' (holdingRows_get hx)
      obtain ⟨ay, rfl, hay, hcy⟩ := (HY3.out.past hb).int_at hy
      have HA1 := Lib.hid (addH_get (b := b) hx hy)
      have HA2 := Lib.hid (leftAt_succ (b := b) hx hy)
      have HNO := Lib.hid (fun h => addB_no (b := b) hx hy h)
      have Hx := Lib.hid (HH.out x (List.mem_of_getElem? hx))
      have hyb := HYB.out y (List.mem_of_getElem? hy)
      obtain ⟨y0, y1⟩ := hyb
      obtain ⟨⟨q0, q1⟩, q2, q3, q4, q5⟩ := addP_bound Hx.out ⟨y0, y1⟩
      have P := pol_ok (hold_pol Hx.out)
      have s0 : 1 ≤ x.sum := P.sum0
      have s1 : x.sum ≤ 100000000 := P.sum1
      obtain ⟨⟨c0, c1⟩, _⟩ := hold_ok Hx.out
      clear P
      have HXG := Lib.hid hx; clear hx hy
      have Hc := Lib.hid hc; clear hc
      obtain ⟨l0, l1⟩ := HLB.out k
      obtain ⟨l2, l3⟩ := HLB.out (k + 1)
      rw [HA2.out] at l2 l3
      have hk63 : (k : Int) < 1048576 := by omega
      have hkm : (k : Int) < (m : Int) := by omega
      have hbn : Below wr.heap.size wr (wr.alloc (.cells #[.int .i64 x.kind, .int .i64 x.age, .int .i64 x.years, .int .i64 x.sum, .int .i64 x.load, .int .i64 x.year, .int .i64 x.count] 37)) := (Below.refl _ wr).alloc (Nat.le_refl _) _
      have hbN := below_step hb hbn
      have HBn := Lib.hid (HB3.out.below' hbN)
      have HBTn := Lib.hid (HBT3.out.past hbN)
      have HNn := Lib.hid (Blk.new wr 37 #[.int .i64 x.kind, .int .i64 x.age, .int .i64 x.years, .int .i64 x.sum, .int .i64 x.load, .int .i64 x.year, .int .i64 x.count])
      have HCY := Lib.hid (show (wr.alloc (.cells #[.int .i64 x.kind, .int .i64 x.age, .int .i64 x.years, .int .i64 x.sum, .int .i64 x.load, .int .i64 x.year, .int .i64 x.count] 37)).cell? (ay.add k) = some (.int .i64 y) from (hbn.cell (p := ay.add k) (by rw [block_of_add]; exact hay)).trans hcy)
      have HRn := Lib.hid (HR.out.past hbn)
      have hcB := Lib.hid (Blk.agg_past (cs := [.int .i64 b.first, .slice A n cap, .int .i64 b.rate]) HBn.out 0 [.int .i64 b.first, .slice A n cap, .int .i64 b.rate] rfl)
      have hcN := Lib.hid (Blk.agg_past (cs := [.int .i64 x.kind, .int .i64 x.age, .int .i64 x.years, .int .i64 x.sum, .int .i64 x.load, .int .i64 x.year, .int .i64 x.count]) HNn.out 0 [.int .i64 x.kind, .int .i64 x.age, .int .i64 x.years, .int .i64 x.sum, .int .i64 x.load, .int .i64 x.year, .int .i64 x.count] rfl)
      have gy := fun z : Past (wr.alloc (.cells #[.int .i64 x.kind, .int .i64 x.age, .int .i64 x.years, .int .i64 x.sum, .int .i64 x.load, .int .i64 x.year, .int .i64 x.count] 37)) => Past.cell HCY.out z
      go_wp2_with (refine wpList_load_agg rfl 37 _ rfl (ad.add (k * 7)) rfl [.int .i64 x.kind, .int .i64 x.age, .int .i64 x.years, .int .i64 x.sum, .int .i64 x.load, .int .i64 x.year, .int .i64 x.count] Hc.out _ Try.underlying37 rfl Holding.size ?_)
      refine wp_region_past (by kernel_rfl) (by kernel_rfl) ?_
      repeat (first | (go_big_quiet_want; (first | (first | (refine quiet_load_agg 28 _ rfl ⟨w.heap.size, 0, none⟩ rfl [.int .i64 b.first, .slice A n cap, .int .i64 b.rate] hcB.out _ Try.underlying28 rfl Bas.size ?_) | (refine quiet_load_agg 37 _ rfl ⟨wr.heap.size, 0, none⟩ rfl [.int .i64 x.kind, .int .i64 x.age, .int .i64 x.years, .int .i64 x.sum, .int .i64 x.load, .int .i64 x.year, .int .i64 x.count] hcN.out _ Try.underlying37 rfl Holding.size ?_))); go_simp; go_big_quiet_on) | go_big_quiet_step ((go_at_call 64; exact past_call (spec_l19Addition_any b A n cap x y _ (HBTn.out.at_past _) Hx.out ⟨y0, y1⟩))))
      refine wpQuiet_nil ?_
      rintro _ ⟨z, rfl⟩
      clear gy hcy
      have hbZ := below_step hbN z.2
      have HNz := Lib.hid (HNn.out.below' z.2)
      have HRz := Lib.hid (HRn.out.past z.2)
      have gy := fun u : Past z.1 => Past.cell (Past.cell HCY.out z) u
      have g6 := fun u : Past z.1 => Past.cell (p := ⟨wr.heap.size, 6, none⟩) (v := .int .i64 x.count) (HNz.out.cell 6) u
      have l4 : -4000000000000000000 ≤ leftAt b xs ys k + y - x.count * (addP b x y).2 := by omega
      have l5 : leftAt b xs ys k + y - x.count * (addP b x y).2 ≤ 4000000000000000000 := by omega
      go_wp2
      refine wp_region_past (by kernel_rfl) (by kernel_rfl) ?_
      repeat (go_big_quiet_step (fail))
      refine wpQuiet_nil ?_
      rintro _ ⟨u, rfl⟩
      clear gy g6
      have hbU := below_step hbZ u.2
      have HNu := Lib.hid (HNz.out.below' u.2)
      have HRu := Lib.hid (HRz.out.past u.2)
      have c3 : u.1.cell? ⟨wr.heap.size, 3, none⟩ = some (.int .i64 x.sum) := HNu.out.cell 3
      have z3 : u.1.frozen? ⟨wr.heap.size, 3, none⟩ = false := HNu.out.frozen 3
      go_upto_region 13 with (fail)
      have HW := Lib.hid (show Res w1.heap.size (u.1.setCell ⟨wr.heap.size, 3, none⟩ (.int .i64 (x.sum + (addP b x y).1))) 37 7 O k oc (holdingRows ((addH b xs ys).take k)) ∧ Blk (u.1.setCell ⟨wr.heap.size, 3, none⟩ (.int .i64 (x.sum + (addP b x y).1))) wr.heap.size 37 #[.int .i64 x.kind, .int .i64 x.age, .int .i64 x.years, .int .i64 (x.sum + (addP b x y).1), .int .i64 x.load, .int .i64 x.year, .int .i64 x.count] ∧ Below w1.heap.size w1 (u.1.setCell ⟨wr.heap.size, 3, none⟩ (.int .i64 (x.sum + (addP b x y).1))) from by
        refine ⟨HRu.out.keep fun g' hg' => Below.heap_setCell _ _ _ _ (fun h => ?_), by simpa using HNu.out.set_ 3 (.int .i64 (x.sum + (addP b x y).1)), hbU.setCell (by show w1.heap.size ≤ wr.heap.size; exact hb.size) _⟩
        have h1 := (HR.out.lt hg').2
        have h2 : g' = wr.heap.size := h
        omega)
      clear c3 z3
      generalize (u.1.setCell ⟨wr.heap.size, 3, none⟩ (.int .i64 (x.sum + (addP b x y).1))) = W9 at HW ⊢
      obtain ⟨hR9, hN9, hb9⟩ := HW.out
      have HR9 := Lib.hid hR9; have HN9 := Lib.hid hN9; have HB9 := Lib.hid hb9
      clear hR9 hN9 hb9 HW
      have c3 : W9.cell? ⟨wr.heap.size, 3, none⟩ = some (.int .i64 (x.sum + (addP b x y).1)) := HN9.out.cell 3
      have hs9 : w1.heap.size ≤ W9.heap.size := HB9.out.size
      cases hin : inR (x.sum + (addP b x y).1) 1 100000000
      · have hgt : 100000000 < x.sum + (addP b x y).1 := by
          have h9 : ¬ (1 ≤ x.sum + (addP b x y).1 ∧ x.sum + (addP b x y).1 ≤ 100000000) := fun h => by rw [inR_mk h] at hin; cases hin
          omega
        have HB0 := Lib.hid (HNO.out hgt)
        have Q := Lib.hid (show addsP b xs ys = ([], 0, 3) by rw [QA.out, if_neg (by rw [HB0.out]; simp)])
        go_wp2_with (first | (go_at_call 65; refine (spec_l07Sum_any _ _).mono ?_; rintro e w' ⟨rfl, rfl⟩))
        go_ret3
        exact ⟨none, 0, 0, by rw [Q.out]; rfl, by rw [Q.out]; exact Res.nil_, hb01.trans (HB9.out.mono hb01.size)⟩
      · have HIN := Lib.hid (inR_true.1 hin)
        have hcX9 := Lib.hid (Blk.agg (cs := [.int .i64 x.kind, .int .i64 x.age, .int .i64 x.years, .int .i64 (x.sum + (addP b x y).1), .int .i64 x.load, .int .i64 x.year, .int .i64 x.count]) HN9.out 0 [.int .i64 x.kind, .int .i64 x.age, .int .i64 x.years, .int .i64 (x.sum + (addP b x y).1), .int .i64 x.load, .int .i64 x.year, .int .i64 x.count] rfl)
        go_wp2_with (first | (go_at_call 65; refine (spec_l07Sum_any _ _).mono ?_; rintro e w' ⟨rfl, rfl⟩) | (refine wpList_load_agg rfl 37 _ rfl ⟨wr.heap.size, 0, none⟩ rfl [.int .i64 x.kind, .int .i64 x.age, .int .i64 x.years, .int .i64 (x.sum + (addP b x y).1), .int .i64 x.load, .int .i64 x.year, .int .i64 x.count] hcX9.out _ Try.underlying37 rfl Holding.size ?_) | (at_builtin; refine wpList_append_row W9 rfl (.tmp 75) (.tmp 77) 29 rfl w1.heap.size 37 i0 _ 7 56 Try.underlying29 HI.out.1 HI.out.2.1 HI.out.2.2.1 HI.out.2.2.2 rfl (by decide) (by decide) O k oc _ rfl HR9.out [.int .i64 x.kind, .int .i64 x.age, .int .i64 x.years, .int .i64 (x.sum + (addP b x y).1), .int .i64 x.load, .int .i64 x.year, .int .i64 x.count] _ rfl rfl (by simp [Value.oneCell']) (by omega) hs9 ?_))
        intro B2 c2 w5 hR5 hb5
        have HR5 := Lib.hid hR5; clear hR5
        have HB5 := Lib.hid (HB9.out.trans hb5)
        go_wp2
        go_roundw
        case rel =>
          refine ⟨k + 1, B2, c2, by omega, by go_num, rfl, by rw [HA2.out]; congr 1; omega, Lib.hid (all_succ HOK.out HA1.out (decide_eq_true (show x.sum + (addP b x y).1 ≤ 100000000 from HIN.out.2))), Lib.hid ?_, HB5.out⟩
          rw [take_succ_snoc HA1.out, holdingRows_snoc]
          exact HR5.out
        case measure => simp [intOf]; omega

end Go.Proofs.Ytbjdbpdgacfcpaa
end

/- A portfolio grown older: the deaths (printed by age.py). -/
section
namespace Go.Proofs.Ytbjdbpdgacfcpaa
open Go.RowKit Go.BigFrame

theorem Rd.boxQ {w : World} {B g sz : Nat} {x : Holding} {c d : Value} (h : Rd w B (some ⟨g, 0, none⟩) sz [[.int .i64 x.kind, .int .i64 x.age, .int .i64 x.years, .int .i64 x.sum, .int .i64 x.load, c, d]]) :
    ∀ (j : Nat) (v : Value), ([.int .i64 x.kind, .int .i64 x.age, .int .i64 x.years, .int .i64 x.sum, .int .i64 x.load] : List Value)[j]? = some v → w.cell? ((⟨g, 0, none⟩ : Addr).add j) = some v := fun j v hv => Rd.box h j v (by
  match j, hv with
  | 0, hv => simpa using hv
  | 1, hv => simpa using hv
  | 2, hv => simpa using hv
  | 3, hv => simpa using hv
  | 4, hv => simpa using hv)
theorem age_box (w : World) (x : Holding) (y : Int) : Below w.heap.size w (w.alloc (.cells #[.int .i64 x.kind, .int .i64 x.age, .int .i64 x.years, .int .i64 x.sum, .int .i64 x.load, .int .i64 (x.year + 1), .int .i64 (x.count - y)] 37)).drew ∧ Rd (w.alloc (.cells #[.int .i64 x.kind, .int .i64 x.age, .int .i64 x.years, .int .i64 x.sum, .int .i64 x.load, .int .i64 (x.year + 1), .int .i64 (x.count - y)] 37)).drew ((w.alloc (.cells #[.int .i64 x.kind, .int .i64 x.age, .int .i64 x.years, .int .i64 x.sum, .int .i64 x.load, .int .i64 (x.year + 1), .int .i64 (x.count - y)] 37)).drew).heap.size (some ⟨w.heap.size, 0, none⟩) 7 [[.int .i64 x.kind, .int .i64 x.age, .int .i64 x.years, .int .i64 x.sum, .int .i64 x.load, .int .i64 (x.year + 1), .int .i64 (x.count - y)]] := by
  obtain ⟨h1, h2⟩ := box1 (w := w) (tx := 37) (X := [.int .i64 x.kind, .int .i64 x.age, .int .i64 x.years, .int .i64 x.sum, .int .i64 x.load, .int .i64 (x.year + 1), .int .i64 (x.count - y)])
  exact ⟨h1.drew, h2.drew⟩
theorem parts_field (a b c : Int) (w : World) : Sem.run Try.prog (Instr.field 90 (.agg #[.int .i64 a, .int .i64 b, .int .i64 c]) 2) w = .ok (.int .i64 c) w := by
  have hu := run_underlying Try.underlying90
  simp [Instr.field, go_sem, hu, asAgg]
set_option maxRecDepth 20000 in
set_option maxHeartbeats 8000000 in
theorem spec_l17Last_at (b : Bas) (A : Option Addr) (n cap : Nat) (x : Holding) (w : World) (hB : BasT w A n cap b) (hpo : PolOk b x.pol) :
    Calls Try.prog 103 #[.agg #[.int .i64 b.first, .slice A n cap, .int .i64 b.rate], .agg x.row.toArray] w fun e w' => e = .returned (.bool (x.year == durP b x.pol - 1)) ∧ Below w.heap.size w w' := by
  unfold Holding.row
  have HB := Lib.hid (Below.refl w.heap.size w)
  have HH := Lib.hid (Held.nil w)
  have HT := Lib.hid hB; clear hB
  obtain ⟨hb, hr0, hr1⟩ := box2 (w := w) (tx := 28) (ty := 37) (X := [.int .i64 b.first, .slice A n cap, .int .i64 b.rate]) (Y := [.int .i64 x.kind, .int .i64 x.age, .int .i64 x.years, .int .i64 x.sum, .int .i64 x.load, .int .i64 x.year, .int .i64 x.count])
  replace HB := Lib.hid (below_all HB.out hb)
  replace HT := Lib.hid (HT.out.past hb)
  replace HH := Lib.hid (((HH.out.past hb).cons hr0).cons hr1)
  clear hb hr0 hr1
  have HPO := Lib.hid hpo; clear hpo
  have hd1 := dur_low HPO.out
  have hd2 := dur_bound HPO.out
  go_enter Try.func103, Try.ntmps103
  go_upto_region 1 with fail
  generalize ((w.alloc (.cells #[.int .i64 b.first, .slice A n cap, .int .i64 b.rate] 28)).alloc (.cells #[.int .i64 x.kind, .int .i64 x.age, .int .i64 x.years, .int .i64 x.sum, .int .i64 x.load, .int .i64 x.year, .int .i64 x.count] 37)) = v0 at HB HH HT ⊢
  generalize w.heap.size + 1 = g0_1 at HH ⊢
  generalize w.heap.size = g0_0 at HH ⊢
  have d0 := fun yq : Past v0 => Past.cell (p := ⟨g0_1, 0, none⟩) (v := .int .i64 x.kind) (Rd.bcell (HH.out.get 0 rfl) 0 rfl) yq
  have d1 := fun yq : Past v0 => Past.cell (p := ⟨g0_1, 1, none⟩) (v := .int .i64 x.age) (Rd.bcell (HH.out.get 0 rfl) 1 rfl) yq
  have d2 := fun yq : Past v0 => Past.cell (p := ⟨g0_1, 2, none⟩) (v := .int .i64 x.years) (Rd.bcell (HH.out.get 0 rfl) 2 rfl) yq
  have d3 := fun yq : Past v0 => Past.cell (p := ⟨g0_1, 3, none⟩) (v := .int .i64 x.sum) (Rd.bcell (HH.out.get 0 rfl) 3 rfl) yq
  have d4 := fun yq : Past v0 => Past.cell (p := ⟨g0_1, 4, none⟩) (v := .int .i64 x.load) (Rd.bcell (HH.out.get 0 rfl) 4 rfl) yq
  have d5 := fun yq : Past v0 => Past.cell (p := ⟨g0_1, 5, none⟩) (v := .int .i64 x.year) (Rd.bcell (HH.out.get 0 rfl) 5 rfl) yq
  have d6 := fun yq : Past v0 => Past.cell (p := ⟨g0_1, 6, none⟩) (v := .int .i64 x.count) (Rd.bcell (HH.out.get 0 rfl) 6 rfl) yq
  go_wp2
  have hQ_pq := Lib.hid (Past.cells' (Rd.boxQ (HH.out.get 0 rfl)))
  have hQ_bx := Lib.hid (Past.cells' (Rd.box (HH.out.get 1 rfl)))
  refine wp_region_past (by kernel_rfl) (by kernel_rfl) ?_
  repeat (first | (go_big_quiet_want; (first | (first | (refine quiet_load_agg 28 _ rfl ⟨g0_0, 0, none⟩ rfl [.int .i64 b.first, .slice A n cap, .int .i64 b.rate] hQ_bx.out _ Try.underlying28 rfl Bas.size ?_) | (refine quiet_load_agg 35 _ rfl ⟨g0_1, 0, none⟩ rfl [.int .i64 x.kind, .int .i64 x.age, .int .i64 x.years, .int .i64 x.sum, .int .i64 x.load] hQ_pq.out _ Try.underlying35 rfl Policy.size ?_))); go_simp; go_big_quiet_on) | go_big_quiet_step ((go_at_call 77; exact past_call (spec_l10Duration_any b A n cap x.pol _ (HT.out.at_past _) HPO.out))))
  refine wpQuiet_nil ?_
  rintro _ ⟨y, rfl⟩
  have hb := y.2
  replace HB := Lib.hid (below_all HB.out hb)
  replace HT := Lib.hid (HT.out.past hb)
  replace HH := Lib.hid (HH.out.past hb)
  clear hb
  clear hQ_bx
  go_wp2
  go_ret
  exact ⟨rfl, HB.out⟩
set_option maxRecDepth 20000 in
set_option maxHeartbeats 8000000 in
theorem impl_checkDeaths_any (b : Bas) (A : Option Addr) (n cap : Nat) (H : Option Addr) (m hcap : Nat) (xs : List Holding) (Y : Option Addr) (my ycap : Nat) (ys : List Int) (w : World) (hB : BasT w A n cap b) (hl : xs.length = m) (hm : m ≤ 1048576) (hX : Rd w w.heap.size H 7 (holdingRows xs)) (hf : ∀ x ∈ xs, x.fits) (hl2 : ys.length = my) (hm2 : my ≤ 1048576) (hY : Rd w w.heap.size Y 1 (intRows ys)) (hfy : ∀ y ∈ ys, In64 y) :
    Calls Try.prog 100 #[.agg #[.int .i64 b.first, .slice A n cap, .int .i64 b.rate], .slice H m hcap, .slice Y my ycap] w fun e w' => e = .returned (.int .i64 (deathCode b xs ys)) ∧ Below w.heap.size w w' := by
  have HF := Lib.hid hf; clear hf
  have HFY := Lib.hid hfy; clear hfy
  have HL := Lib.hid hl; clear hl
  have HL2 := Lib.hid hl2; clear hl2
  have HB := Lib.hid (Below.refl w.heap.size w)
  have HH := Lib.hid (((Held.nil w).cons hX).cons hY); clear hX hY
  have HT := Lib.hid hB; clear hB
  obtain ⟨hb, hr0⟩ := box1 (w := w) (tx := 28) (X := [.int .i64 b.first, .slice A n cap, .int .i64 b.rate])
  replace HB := Lib.hid (below_all HB.out hb)
  replace HT := Lib.hid (HT.out.past hb)
  replace HH := Lib.hid ((HH.out.past hb).cons hr0)
  clear hb hr0
  cases hp : portB b xs
  · skip
    have Q := Lib.hid (show deathCode b xs ys = 1 by simp [deathCode, hp])
    go_enter Try.func100, Try.ntmps100
    have HL_bx := Lib.hid (Rd.box (HH.out.get 0 rfl))
    go_wp2_with (refine wpList_load_agg rfl 28 _ rfl ⟨w.heap.size, 0, none⟩ rfl [.int .i64 b.first, .slice A n cap, .int .i64 b.rate] HL_bx.out _ Try.underlying28 rfl Bas.size ?_)
    clear HL_bx
    generalize (w.alloc (.cells #[.int .i64 b.first, .slice A n cap, .int .i64 b.rate] 28)) = v0 at HB HH HT ⊢
    generalize w.heap.size = g0_0 at HH ⊢
    refine (impl_IsPortfolio_any b A n cap H m hcap xs _ HT.out HL.out hm (HH.out.get 2 rfl) HF.out).mono ?_
    rw [hp]
    rintro e w1 ⟨rfl, hb⟩
    replace HB := Lib.hid (below_all HB.out hb)
    replace HT := Lib.hid (HT.out.past hb)
    replace HH := Lib.hid (HH.out.past hb)
    clear hb
    go_wp2
    go_ret
    exact ⟨by rw [Q.out]; rfl, HB.out⟩
  · skip
    by_cases hlen : my = m
    · skip
      have QC := Lib.hid (show deathCode b xs ys = if deadB xs ys = true then 0 else 2 by unfold deathCode; rw [if_pos hp, if_pos (by rw [HL.out, HL2.out, hlen])])
      have hmm : ((my : Int) != (m : Int)) = false := by simp; omega
      have hm30 : m ≤ 30 := by have := (port_hold hp).1; rw [HL.out] at this; exact this
      subst hlen
      go_enter Try.func100, Try.ntmps100
      have HL_bx := Lib.hid (Rd.box (HH.out.get 0 rfl))
      go_wp2_with (refine wpList_load_agg rfl 28 _ rfl ⟨w.heap.size, 0, none⟩ rfl [.int .i64 b.first, .slice A n cap, .int .i64 b.rate] HL_bx.out _ Try.underlying28 rfl Bas.size ?_)
      clear HL_bx
      generalize (w.alloc (.cells #[.int .i64 b.first, .slice A n cap, .int .i64 b.rate] 28)) = v0 at HB HH HT ⊢
      generalize w.heap.size = g0_0 at HH ⊢
      refine (impl_IsPortfolio_any b A n cap H my hcap xs _ HT.out HL.out hm (HH.out.get 2 rfl) HF.out).mono ?_
      rw [hp]
      rintro e w1 ⟨rfl, hb⟩
      replace HB := Lib.hid (below_all HB.out hb)
      replace HT := Lib.hid (HT.out.past hb)
      replace HH := Lib.hid (HH.out.past hb)
      clear hb
      have HH1 := HH
      have HT1 := HT
      have HB1 := HB
      go_wp2
      go_loopw [20] (fun i wr => ∃ k : Nat, k ≤ my ∧ i = .int .i64 k ∧ Hid (((xs.zip ys).take k).all (fun p => inR p.2 0 p.1.count) = true) ∧ Below w1.heap.size w1 wr) (fun i _ => my - (intOf i).toNat)
      case atStart => exact ⟨0, by omega, rfl, Lib.hid rfl, Below.refl _ _⟩
      case round =>
        clear HB HH HT
        obtain ⟨k, hk, rfl, HAL, hb⟩ := hrel
        have HW := Lib.hid hb
        have HH := Lib.hid (HH1.out.past hb)
        have HT := Lib.hid (HT1.out.past hb)
        have HB := Lib.hid (HB1.out.trans (hb.mono HB1.out.size))
        clear hb
        by_cases hlt : k < my
        · skip
          obtain ⟨x, hx⟩ := get_of_lt (xs := xs) (k := k) (by rw [HL.out]; exact hlt)
          obtain ⟨y, hy⟩ := get_of_lt (xs := ys) (k := k) (by rw [HL2.out]; exact hlt)
          obtain ⟨ad, rfl, had, _, hc⟩ := ((HH.out.get 2 rfl)).at' (holdingRows_get hx)
          obtain ⟨ay, rfl, hay, hcy⟩ := ((HH.out.get 1 rfl)).int_at hy
          have HZ := Lib.hid (pair_get hx hy)
          have Hc := Lib.hid hc; clear hc
          have HCY := Lib.hid hcy; clear hcy
          have HYA := Lib.hid hay; clear hay
          have hyi := HFY.out y (List.mem_of_getElem? hy)
          have hxi := HF.out x (List.mem_of_getElem? hx)
          have hki : (k : Int) < (my : Int) := by omega
          have hk63 : (k : Int) < 1048576 := by omega
          obtain ⟨hb, hr0⟩ := box1 (w := wr) (tx := 37) (X := [.int .i64 x.kind, .int .i64 x.age, .int .i64 x.years, .int .i64 x.sum, .int .i64 x.load, .int .i64 x.year, .int .i64 x.count])
          replace HB := Lib.hid (below_all HB.out hb)
          replace HT := Lib.hid (HT.out.past hb)
          replace HH := Lib.hid ((HH.out.past hb).cons hr0)
          clear hb hr0
          have hba : Below wr.heap.size wr (wr.alloc (.cells #[.int .i64 x.kind, .int .i64 x.age, .int .i64 x.years, .int .i64 x.sum, .int .i64 x.load, .int .i64 x.year, .int .i64 x.count] 37)) := (Below.refl _ wr).alloc (Nat.le_refl _) _
          replace HW := Lib.hid (HW.out.trans (hba.mono HW.out.size))
          have HCN := Lib.hid ((hba.cell (p := ay.add k) (by rw [block_of_add]; exact HYA.out)).trans HCY.out); clear hba
          go_upto_region 8 with (refine wpList_load_agg rfl 37 _ rfl (ad.add (k * 7)) rfl [.int .i64 x.kind, .int .i64 x.age, .int .i64 x.years, .int .i64 x.sum, .int .i64 x.load, .int .i64 x.year, .int .i64 x.count] Hc.out _ Try.underlying37 rfl Holding.size ?_)
          generalize (wr.alloc (.cells #[.int .i64 x.kind, .int .i64 x.age, .int .i64 x.years, .int .i64 x.sum, .int .i64 x.load, .int .i64 x.year, .int .i64 x.count] 37)) = v1 at HB HH HT HW HCN ⊢
          generalize wr.heap.size = g1_0 at HH ⊢
          have d0 := fun yq : Past v1 => Past.cell (p := ⟨g1_0, 0, none⟩) (v := .int .i64 x.kind) (Rd.bcell (HH.out.get 0 rfl) 0 rfl) yq
          have d1 := fun yq : Past v1 => Past.cell (p := ⟨g1_0, 1, none⟩) (v := .int .i64 x.age) (Rd.bcell (HH.out.get 0 rfl) 1 rfl) yq
          have d2 := fun yq : Past v1 => Past.cell (p := ⟨g1_0, 2, none⟩) (v := .int .i64 x.years) (Rd.bcell (HH.out.get 0 rfl) 2 rfl) yq
          have d3 := fun yq : Past v1 => Past.cell (p := ⟨g1_0, 3, none⟩) (v := .int .i64 x.sum) (Rd.bcell (HH.out.get 0 rfl) 3 rfl) yq
          have d4 := fun yq : Past v1 => Past.cell (p := ⟨g1_0, 4, none⟩) (v := .int .i64 x.load) (Rd.bcell (HH.out.get 0 rfl) 4 rfl) yq
          have d5 := fun yq : Past v1 => Past.cell (p := ⟨g1_0, 5, none⟩) (v := .int .i64 x.year) (Rd.bcell (HH.out.get 0 rfl) 5 rfl) yq
          have d6 := fun yq : Past v1 => Past.cell (p := ⟨g1_0, 6, none⟩) (v := .int .i64 x.count) (Rd.bcell (HH.out.get 0 rfl) 6 rfl) yq
          have dy := fun u : Past v1 => Past.cell HCN.out u
          cases hin : inR y 0 x.count
          · skip
            have Q := Lib.hid (show deathCode b xs ys = 2 by rw [QC.out, show deadB xs ys = false from all_stop HZ.out hin]; rfl)
            have HIN := Lib.hid hin; clear hin
            go_wp2
            refine wp_region_past (by kernel_rfl) (by kernel_rfl) ?_
            repeat (go_big_quiet_step ((go_at_call 108; exact past_same ((impl_inRange_any y 0 x.count _).mono (by rw [HIN.out]; exact fun _ _ h => h)))))
            refine wpQuiet_nil ?_
            rintro _ ⟨y, rfl⟩
            have hb := y.2
            replace HB := Lib.hid (below_all HB.out hb)
            replace HT := Lib.hid (HT.out.past hb)
            replace HH := Lib.hid (HH.out.past hb)
            clear hb
            go_wp2
            go_ret
            exact ⟨by rw [Q.out]; rfl, HB.out⟩
          · skip
            have HIN := Lib.hid hin; clear hin
            go_wp2
            refine wp_region_past (by kernel_rfl) (by kernel_rfl) ?_
            repeat (go_big_quiet_step ((go_at_call 108; exact past_same ((impl_inRange_any y 0 x.count _).mono (by rw [HIN.out]; exact fun _ _ h => h)))))
            refine wpQuiet_nil ?_
            rintro _ ⟨u, rfl⟩
            have hb := u.2
            replace HW := Lib.hid (HW.out.trans (hb.mono HW.out.size))
            replace HB := Lib.hid (below_all HB.out hb)
            replace HT := Lib.hid (HT.out.past hb)
            replace HH := Lib.hid (HH.out.past hb)
            clear hb
            go_wp2
            go_roundw
            case rel => exact ⟨k + 1, by omega, by go_num, Lib.hid (all_succ HAL.out HZ.out HIN.out), HW.out⟩
            case measure => simp [intOf]; omega
        · have hkn : k = my := by omega
          have Q := Lib.hid (show deathCode b xs ys = 0 by rw [QC.out, if_pos (show deadB xs ys = true from all_end (n := my) (by rw [List.length_zip, HL.out, HL2.out]; omega) (by have h := HAL.out; rw [hkn] at h; exact h))])
          subst hkn
          go_wp2
          go_ret
          exact ⟨by rw [Q.out]; rfl, HB.out⟩
    · skip
      have Q := Lib.hid (show deathCode b xs ys = 2 by unfold deathCode; rw [if_pos hp, if_neg (fun h => hlen (by rw [HL.out, HL2.out] at h; exact h))])
      have hne : ((my : Int) != (m : Int)) = true := by simp; omega
      go_enter Try.func100, Try.ntmps100
      have HL_bx := Lib.hid (Rd.box (HH.out.get 0 rfl))
      go_wp2_with (refine wpList_load_agg rfl 28 _ rfl ⟨w.heap.size, 0, none⟩ rfl [.int .i64 b.first, .slice A n cap, .int .i64 b.rate] HL_bx.out _ Try.underlying28 rfl Bas.size ?_)
      clear HL_bx
      generalize (w.alloc (.cells #[.int .i64 b.first, .slice A n cap, .int .i64 b.rate] 28)) = v0 at HB HH HT ⊢
      generalize w.heap.size = g0_0 at HH ⊢
      refine (impl_IsPortfolio_any b A n cap H m hcap xs _ HT.out HL.out hm (HH.out.get 2 rfl) HF.out).mono ?_
      rw [hp]
      rintro e w1 ⟨rfl, hb⟩
      replace HB := Lib.hid (below_all HB.out hb)
      replace HT := Lib.hid (HT.out.past hb)
      replace HH := Lib.hid (HH.out.past hb)
      clear hb
      go_wp2
      go_ret
      exact ⟨by rw [Q.out]; rfl, HB.out⟩
end Go.Proofs.Ytbjdbpdgacfcpaa
end
