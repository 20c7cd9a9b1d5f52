/- Reserves by the kind of the policies: the program's and the reference's contracts. -/
import Derived.Test.YtkpppajihgnkcaaKindP
namespace Go.Proofs.Ytkpppajihgnkcaa
open Go.RowKit Go.BigFrame

/-- the block of the four sums after k holdings -/
def KindBlk (w : World) (G : Nat) (b : Bas) (xs : List Holding) (k : Nat) : Prop := ∃ cs : Array Value, Blk w G 2 cs ∧ cs.size = 4 ∧ ∀ j : Nat, j < 4 → cs[j]? = some (.int .i64 (kindAt b xs j k))
theorem KindBlk.past {w w' : World} {G : Nat} {b : Bas} {xs : List Holding} {k : Nat} (h : KindBlk w G b xs k) (hb : Below w.heap.size w w') : KindBlk w' G b xs k := by
  obtain ⟨cs, h1, h2⟩ := h
  exact ⟨cs, h1.below' hb, h2⟩
theorem KindBlk.cell {w : World} {G : Nat} {b : Bas} {xs : List Holding} {k : Nat} (h : KindBlk w G b xs k) {j : Int} (hj : 0 ≤ j ∧ j < 4) : w.cell? ⟨G, j.toNat, none⟩ = some (.int .i64 (kindAt b xs j k)) ∧ w.frozen? ⟨G, j.toNat, none⟩ = false := by
  obtain ⟨cs, h1, h2, h3⟩ := h
  refine ⟨?_, h1.frozen _⟩
  rw [h1.cell, h3 j.toNat (by omega), Int.toNat_of_nonneg hj.1]
theorem KindBlk.next {w : World} {G : Nat} {b : Bas} {xs : List Holding} {k : Nat} {x : Holding} (h : KindBlk w G b xs k) (hx : xs[k]? = some x) (hj : 0 ≤ x.kind ∧ x.kind < 4) :
    KindBlk (w.setCell ⟨G, x.kind.toNat, none⟩ (.int .i64 (kindAt b xs x.kind k + resV b x))) G b xs (k + 1) := by
  obtain ⟨cs, h1, h2, h3⟩ := h
  refine ⟨_, h1.set_ _ _, by simpa using h2, fun j hj4 => ?_⟩
  rw [Array.getElem?_setIfInBounds, kindAt_succ hx]
  by_cases e : x.kind.toNat = j
  · have e' : x.kind = (j : Int) := by omega
    rw [if_pos e, if_pos (by omega), kindV, if_pos e', e']
  · have e' : ¬ x.kind = (j : Int) := by omega
    rw [if_neg e, kindV, if_neg e', Int.add_zero]
    exact h3 j hj4
theorem KindBlk.zero {w : World} {b : Bas} {xs : List Holding} : KindBlk (w.alloc (.cells #[.int .i64 0, .int .i64 0, .int .i64 0, .int .i64 0] 2)) w.heap.size b xs 0 := by
  refine ⟨_, Blk.new w 2 #[.int .i64 0, .int .i64 0, .int .i64 0, .int .i64 0], rfl, fun j hj => ?_⟩
  rw [kindAt_zero]
  match j, hj with
  | 0, _ => rfl
  | 1, _ => rfl
  | 2, _ => rfl
  | 3, _ => rfl


theorem four_cells : madeCells (Value.int .i64 0).cells (4 * 1) = #[.int .i64 0, .int .i64 0, .int .i64 0, .int .i64 0] := by kernel_rfl
theorem KindBlk.res {w : World} {G B : Nat} {b : Bas} {xs : List Holding} {k : Nat} (h : KindBlk w G b xs k) (hk : xs.length = k) (hB : B ≤ G) :
    Res B w 2 1 (some ⟨G, 0, none⟩) 4 4 (intRows [kindAt b xs 0 xs.length, kindAt b xs 1 xs.length, kindAt b xs 2 xs.length, kindAt b xs 3 xs.length]) := by
  obtain ⟨cs, h1, h2, h3⟩ := h
  subst hk
  refine Filled.res (cs := cs) h1 ?_ rfl (by omega) hB (by decide) (intRows_all _)
  have e0 := h3 0 (by omega); have e1 := h3 1 (by omega); have e2 := h3 2 (by omega); have e3 := h3 3 (by omega)
  intro i r hi hr j v hv
  have hj : j = 0 := by
    have h4 := intRows_all _ r (List.mem_of_getElem? hr)
    have h5 := (List.getElem?_eq_some_iff.1 hv).1
    omega
  subst hj
  match i, hi with
  | 0, _ => simp [intRows] at hr; subst hr; simp at hv; subst hv; exact e0
  | 1, _ => simp [intRows] at hr; subst hr; simp at hv; subst hv; exact e1
  | 2, _ => simp [intRows] at hr; subst hr; simp at hv; subst hv; exact e2
  | 3, _ => simp [intRows] at hr; subst hr; simp at hv; subst hv; exact e3
theorem kind_add {b : Bas} {xs : List Holding} (hl : xs.length ≤ 30) (hh : ∀ x ∈ xs, holdB b x = true) {k : Nat} {x : Holding} (hx : xs[k]? = some x) :
    -4000000000000000000 ≤ kindAt b xs x.kind k + resV b x ∧ kindAt b xs x.kind k + resV b x ≤ 4000000000000000000 := by
  have h1 := kindAt_bound hl hh x.kind (k + 1)
  rw [kindAt_succ hx, kindV, if_pos rfl] at h1
  exact h1
theorem hold_kind4 {b : Bas} {h : Holding} (H : holdB b h = true) : 0 ≤ h.kind ∧ h.kind < 4 := by
  have := hold_kind H
  omega


set_option maxHeartbeats 4000000 in
theorem impl_ReserveByKind_any (b : Bas) (A : Option Addr) (n cap : Nat) (H : Option Addr) (m hcap : Nat) (xs : List Holding) (w : World) (hB : BasT w A n cap b) (hl : xs.length = m) (hm : m ≤ 1048576) (hX : Rd w w.heap.size H 7 (holdingRows xs)) (hf : ∀ x ∈ xs, x.fits) :
    Calls Try.prog 45 #[.agg #[.int .i64 b.first, .slice A n cap, .int .i64 b.rate], .slice H m hcap] w fun e w' => ∃ A' n' c', e = .returned (.tuple #[.slice A' n' c', .int .i64 (kindsP b xs).2]) ∧ Res w.heap.size w' 2 1 A' n' c' (intRows (kindsP b xs).1) ∧ Below w.heap.size w w' := by
  have hbw : Below w.heap.size w (w.alloc (.cells #[.int .i64 b.first, .slice A n cap, .int .i64 b.rate] 39)) := (Below.refl _ w).alloc (Nat.le_refl _) _
  have HB := Lib.hid (Blk.new w 39 #[.int .i64 b.first, .slice A n cap, .int .i64 b.rate])
  have HBT := Lib.hid (hB.past hbw); clear hB
  have HX := Lib.hid (hX.past hbw); clear hX
  have HL := Lib.hid hl; clear hl
  have HF := Lib.hid hf; clear hf
  have hcB0 := Lib.hid (Blk.agg (cs := [.int .i64 b.first, .slice A n cap, .int .i64 b.rate]) HB.out 0 [.int .i64 b.first, .slice A n cap, .int .i64 b.rate] rfl)
  cases hp : portB b xs
  · have Q := Lib.hid (show kindsP b xs = ([], 1) by simp [kindsP, hp])
    go_enter Try.func45, Try.ntmps45
    go_wp2_with (refine wpList_load_agg rfl 39 _ rfl ⟨w.heap.size, 0, none⟩ rfl [.int .i64 b.first, .slice A n cap, .int .i64 b.rate] hcB0.out _ Try.underlying39 rfl Bas.size ?_)
    refine (impl_IsPortfolio_any b A n cap H m hcap xs _ HBT.out HL.out hm HX.out HF.out).mono ?_
    rw [hp]
    rintro e w1 ⟨rfl, hb1⟩
    go_wp2
    go_ret2
    exact ⟨none, 0, 0, by rw [Q.out]; rfl, by rw [Q.out]; exact Res.nil_, hbw.trans (hb1.mono hbw.size)⟩
  obtain ⟨h30, hh⟩ := port_hold hp
  have HKA := Lib.hid (fun k x (hx : xs[k]? = some x) => kind_add h30 hh hx)
  have HH := Lib.hid hh; clear hh
  have hm30 : m ≤ 30 := by have := HL.out; omega
  have Q := Lib.hid (show kindsP b xs = ([kindAt b xs 0 xs.length, kindAt b xs 1 xs.length, kindAt b xs 2 xs.length, kindAt b xs 3 xs.length], 0) by simp [kindsP, hp])
  obtain ⟨i0, hi0, hz0, hz1, hz2⟩ := info_parts Int64.info
  have hmk : ∀ W : World, (Instr.makeSlice 22 (.int .i64 4) (.int .i64 4)).run Try.prog W = .ok (.slice (some ⟨W.heap.size, 0, none⟩) 4 4) (W.alloc (.cells #[.int .i64 0, .int .i64 0, .int .i64 0, .int .i64 0] 2)) := fun W => by
    have h := run_make_rowN (P := Try.prog) 22 2 i0 _ Try.underlying22 hi0 hz0 .i64 .i64 4 4 (Nat.le_refl _) (by rw [hz2]; omega) (by omega) W
    rw [hz1, four_cells] at h
    exact h
  clear hi0 hz0 hz1 hz2
  go_enter Try.func45, Try.ntmps45
  go_wp2_with (refine wpList_load_agg rfl 39 _ rfl ⟨w.heap.size, 0, none⟩ rfl [.int .i64 b.first, .slice A n cap, .int .i64 b.rate] hcB0.out _ Try.underlying39 rfl Bas.size ?_)
  refine (impl_IsPortfolio_any b A n cap H m hcap xs _ HBT.out HL.out hm HX.out HF.out).mono ?_
  rw [hp]
  rintro e w1 ⟨rfl, hb1⟩
  have HBT1 := Lib.hid (HBT.out.past hb1)
  have HX1 := Lib.hid (HX.out.past hb1)
  have hb01 := hbw.trans (hb1.mono hbw.size)
  have HB1 := Lib.hid (HB.out.below' hb1)
  have HK0 := Lib.hid (KindBlk.zero (w := w1) (b := b) (xs := xs))
  have hb4 : Below w1.heap.size w1 (w1.alloc (.cells #[.int .i64 0, .int .i64 0, .int .i64 0, .int .i64 0] 2)) := (Below.refl _ _).alloc (Nat.le_refl _) _
  go_wp2
  clear hmk
  go_loopw [16] (fun i wr => ∃ k : Nat, k ≤ m ∧ i = .int .i64 k ∧ KindBlk wr w1.heap.size b xs k ∧ Below w1.heap.size w1 wr) (fun i _ => m - (intOf i).toNat)
  case atStart => exact ⟨0, by omega, rfl, HK0.out, hb4⟩
  case round =>
    obtain ⟨k, hk, rfl, hK, hb⟩ := hrel
    have HK := Lib.hid hK; clear hK
    by_cases hlt : k < m
    · obtain ⟨x, hx⟩ := get_of_lt (xs := xs) (k := k) (by rw [HL.out]; exact hlt)
      obtain ⟨ad, rfl, had, _, hc⟩ := (HX1.out.past hb).at' (holdingRows_get hx)
      have Hx := Lib.hid (HH.out x (List.mem_of_getElem? hx))
      obtain ⟨ka1, ka2⟩ := HKA.out k x hx
      have hbd := hold_kind4 Hx.out
      obtain ⟨kb1, kb2⟩ := hbd
      have HXK := Lib.hid hx; clear hx
      have Hc := Lib.hid hc; clear hc
      have hk63 : (k : Int) < 1048576 := by omega
      have hbn : Below wr.heap.size wr (wr.alloc (.cells #[.int .i64 x.kind, .int .i64 x.age, .int .i64 x.years, .int .i64 x.sum, .int .i64 x.load, .int .i64 x.year, .int .i64 x.count] 56)) := (Below.refl _ wr).alloc (Nat.le_refl _) _
      have hbn1 := hb.trans (hbn.mono hb.size)
      have HBn := Lib.hid (HB1.out.below' hbn1)
      have HBTn := Lib.hid (HBT1.out.past hbn1)
      have HKn := Lib.hid (HK.out.past hbn)
      have HNn := Lib.hid (Blk.new wr 56 #[.int .i64 x.kind, .int .i64 x.age, .int .i64 x.years, .int .i64 x.sum, .int .i64 x.load, .int .i64 x.year, .int .i64 x.count])
      have hcB := Lib.hid (Blk.agg_past (cs := [.int .i64 b.first, .slice A n cap, .int .i64 b.rate]) HBn.out 0 [.int .i64 b.first, .slice A n cap, .int .i64 b.rate] rfl)
      have hcN := Lib.hid (Blk.agg_past (cs := [.int .i64 x.kind, .int .i64 x.age, .int .i64 x.years, .int .i64 x.sum, .int .i64 x.load, .int .i64 x.year, .int .i64 x.count]) HNn.out 0 [.int .i64 x.kind, .int .i64 x.age, .int .i64 x.years, .int .i64 x.sum, .int .i64 x.load, .int .i64 x.year, .int .i64 x.count] rfl)
      have d0 := fun y : Past (wr.alloc (.cells #[.int .i64 x.kind, .int .i64 x.age, .int .i64 x.years, .int .i64 x.sum, .int .i64 x.load, .int .i64 x.year, .int .i64 x.count] 56)) => Past.cell (p := ⟨wr.heap.size, 0, none⟩) (v := .int .i64 x.kind) (HNn.out.cell 0) y
      have d1 := fun y : Past (wr.alloc (.cells #[.int .i64 x.kind, .int .i64 x.age, .int .i64 x.years, .int .i64 x.sum, .int .i64 x.load, .int .i64 x.year, .int .i64 x.count] 56)) => Past.cell (p := ⟨w1.heap.size, x.kind.toNat, none⟩) (HKn.out.cell ⟨kb1, kb2⟩).1 y
      go_wp2_with (refine wpList_load_agg rfl 56 _ rfl (ad.add (k * 7)) rfl [.int .i64 x.kind, .int .i64 x.age, .int .i64 x.years, .int .i64 x.sum, .int .i64 x.load, .int .i64 x.year, .int .i64 x.count] Hc.out _ Try.underlying56 rfl Holding.size ?_)
      refine wp_region_past_tail 11 (by kernel_rfl) (by kernel_rfl) ?_
      simp only [List.take_succ_cons, List.take_zero, List.drop_succ_cons, List.drop_zero]
      repeat (first | (go_big_quiet_want; (first | (first | (refine quiet_load_agg 39 _ rfl ⟨w.heap.size, 0, none⟩ rfl [.int .i64 b.first, .slice A n cap, .int .i64 b.rate] hcB.out _ Try.underlying39 rfl Bas.size ?_) | (refine quiet_load_agg 56 _ rfl ⟨wr.heap.size, 0, none⟩ rfl [.int .i64 x.kind, .int .i64 x.age, .int .i64 x.years, .int .i64 x.sum, .int .i64 x.load, .int .i64 x.year, .int .i64 x.count] hcN.out _ Try.underlying56 rfl Holding.size ?_))); go_simp; go_big_quiet_on) | go_big_quiet_step ((go_at_call 89; exact past_call (impl_Holding_reserve_any b A n cap x _ (HBTn.out.at_past _) Hx.out))))
      refine wpQuiet_nil ?_
      rintro _ ⟨y, rfl⟩
      have HKy := Lib.hid (HKn.out.past y.2)
      have cz : y.1.cell? ⟨w1.heap.size, x.kind.toNat, none⟩ = some (.int .i64 (kindAt b xs x.kind k)) := (HKy.out.cell ⟨kb1, kb2⟩).1
      have fz : y.1.frozen? ⟨w1.heap.size, x.kind.toNat, none⟩ = false := (HKy.out.cell ⟨kb1, kb2⟩).2
      have hby : Below w1.heap.size w1 y.1 := hbn1.trans (y.2.mono hbn1.size)
      go_wp2
      go_roundw
      case rel => exact ⟨k + 1, by omega, by go_num, HKy.out.next HXK.out ⟨kb1, kb2⟩, hby.setCell (Nat.le_refl _) _⟩
      case measure => simp [intOf]; omega
    · have hkn : k = m := by omega
      subst hkn
      go_wp2
      go_ret2
      refine ⟨some ⟨w1.heap.size, 0, none⟩, 4, 4, by rw [Q.out]; rfl, ?_, hb01.trans (hb.mono hb01.size)⟩
      rw [Q.out]
      exact HK.out.res HL.out (by have := hb01.size; omega)


set_option maxHeartbeats 4000000 in
theorem spec_ReserveByKind_any (b : Bas) (A : Option Addr) (n cap : Nat) (H : Option Addr) (m hcap : Nat) (xs : List Holding) (w : World) (hB : BasT w A n cap b) (hl : xs.length = m) (hm : m ≤ 1048576) (hX : Rd w w.heap.size H 7 (holdingRows xs)) (hf : ∀ x ∈ xs, x.fits) :
    Calls Try.prog 44 #[.agg #[.int .i64 b.first, .slice A n cap, .int .i64 b.rate], .slice H m hcap] w fun e w' => ∃ A' n' c', e = .returned (.tuple #[.slice A' n' c', .int .i64 (kindsP b xs).2]) ∧ Res w.heap.size w' 2 1 A' n' c' (intRows (kindsP b xs).1) ∧ Below w.heap.size w w' := by
  have hbw : Below w.heap.size w (w.alloc (.cells #[.int .i64 b.first, .slice A n cap, .int .i64 b.rate] 39)) := (Below.refl _ w).alloc (Nat.le_refl _) _
  have HB := Lib.hid (Blk.new w 39 #[.int .i64 b.first, .slice A n cap, .int .i64 b.rate])
  have HBT := Lib.hid (hB.past hbw); clear hB
  have HX := Lib.hid (hX.past hbw); clear hX
  have HL := Lib.hid hl; clear hl
  have HF := Lib.hid hf; clear hf
  have hcB0 := Lib.hid (Blk.agg (cs := [.int .i64 b.first, .slice A n cap, .int .i64 b.rate]) HB.out 0 [.int .i64 b.first, .slice A n cap, .int .i64 b.rate] rfl)
  cases hp : portB b xs
  · have Q := Lib.hid (show kindsP b xs = ([], 1) by simp [kindsP, hp])
    go_enter Try.func44, Try.ntmps44
    go_wp2_with (refine wpList_load_agg rfl 39 _ rfl ⟨w.heap.size, 0, none⟩ rfl [.int .i64 b.first, .slice A n cap, .int .i64 b.rate] hcB0.out _ Try.underlying39 rfl Bas.size ?_)
    refine (spec_IsPortfolio_any b A n cap H m hcap xs _ HBT.out HL.out hm HX.out HF.out).mono ?_
    rw [hp]
    rintro e w1 ⟨rfl, hb1⟩
    go_wp2
    go_ret2
    exact ⟨none, 0, 0, by rw [Q.out]; rfl, by rw [Q.out]; exact Res.nil_, hbw.trans (hb1.mono hbw.size)⟩
  obtain ⟨h30, hh⟩ := port_hold hp
  have HKA := Lib.hid (fun k x (hx : xs[k]? = some x) => kind_add h30 hh hx)
  have HH := Lib.hid hh; clear hh
  have hm30 : m ≤ 30 := by have := HL.out; omega
  have Q := Lib.hid (show kindsP b xs = ([kindAt b xs 0 xs.length, kindAt b xs 1 xs.length, kindAt b xs 2 xs.length, kindAt b xs 3 xs.length], 0) by simp [kindsP, hp])
  obtain ⟨i0, hi0, hz0, hz1, hz2⟩ := info_parts Int64.info
  have hmk : ∀ W : World, (Instr.makeSlice 22 (.int .i64 4) (.int .i64 4)).run Try.prog W = .ok (.slice (some ⟨W.heap.size, 0, none⟩) 4 4) (W.alloc (.cells #[.int .i64 0, .int .i64 0, .int .i64 0, .int .i64 0] 2)) := fun W => by
    have h := run_make_rowN (P := Try.prog) 22 2 i0 _ Try.underlying22 hi0 hz0 .i64 .i64 4 4 (Nat.le_refl _) (by rw [hz2]; omega) (by omega) W
    rw [hz1, four_cells] at h
    exact h
  clear hi0 hz0 hz1 hz2
  go_enter Try.func44, Try.ntmps44
  go_wp2_with (refine wpList_load_agg rfl 39 _ rfl ⟨w.heap.size, 0, none⟩ rfl [.int .i64 b.first, .slice A n cap, .int .i64 b.rate] hcB0.out _ Try.underlying39 rfl Bas.size ?_)
  refine (spec_IsPortfolio_any b A n cap H m hcap xs _ HBT.out HL.out hm HX.out HF.out).mono ?_
  rw [hp]
  rintro e w1 ⟨rfl, hb1⟩
  have HBT1 := Lib.hid (HBT.out.past hb1)
  have HX1 := Lib.hid (HX.out.past hb1)
  have hb01 := hbw.trans (hb1.mono hbw.size)
  have HB1 := Lib.hid (HB.out.below' hb1)
  have HK0 := Lib.hid (KindBlk.zero (w := w1) (b := b) (xs := xs))
  have hb4 : Below w1.heap.size w1 (w1.alloc (.cells #[.int .i64 0, .int .i64 0, .int .i64 0, .int .i64 0] 2)) := (Below.refl _ _).alloc (Nat.le_refl _) _
  go_wp2
  clear hmk
  go_loopw [7] (fun i wr => ∃ k : Nat, k ≤ m ∧ i = .int .i64 k ∧ KindBlk wr w1.heap.size b xs k ∧ Below w1.heap.size w1 wr) (fun i _ => m - (intOf i).toNat)
  case atStart => exact ⟨0, by omega, rfl, HK0.out, hb4⟩
  case round =>
    obtain ⟨k, hk, rfl, hK, hb⟩ := hrel
    have HK := Lib.hid hK; clear hK
    by_cases hlt : k < m
    · obtain ⟨x, hx⟩ := get_of_lt (xs := xs) (k := k) (by rw [HL.out]; exact hlt)
      obtain ⟨ad, rfl, had, _, hc⟩ := (HX1.out.past hb).at' (holdingRows_get hx)
      have Hx := Lib.hid (HH.out x (List.mem_of_getElem? hx))
      obtain ⟨ka1, ka2⟩ := HKA.out k x hx
      have hbd := hold_kind4 Hx.out
      obtain ⟨kb1, kb2⟩ := hbd
      have HXK := Lib.hid hx; clear hx
      have Hc := Lib.hid hc; clear hc
      have hk63 : (k : Int) < 1048576 := by omega
      have hbn1 := hb
      have hbn : Below wr.heap.size wr wr := Below.refl _ _
      have HBn := Lib.hid (HB1.out.below' hbn1)
      have HBTn := Lib.hid (HBT1.out.past hbn1)
      have HKn := Lib.hid HK.out
      have hcB := Lib.hid (Blk.agg_past (cs := [.int .i64 b.first, .slice A n cap, .int .i64 b.rate]) HBn.out 0 [.int .i64 b.first, .slice A n cap, .int .i64 b.rate] rfl)
      have hcH := Lib.hid (Past.cells' Hc.out)
      have c0 : wr.cell? (ad.add (k * 7)) = some (.int .i64 x.kind) := by have := Hc.out 0 (.int .i64 x.kind) rfl; rwa [add_zero_at] at this
      have d1 := fun y : Past wr => Past.cell (p := ⟨w1.heap.size, x.kind.toNat, none⟩) (HKn.out.cell ⟨kb1, kb2⟩).1 y
      go_wp2
      refine wp_region_past_tail 14 (by kernel_rfl) (by kernel_rfl) ?_
      simp only [List.take_succ_cons, List.take_zero, List.drop_succ_cons, List.drop_zero]
      repeat (first | (go_big_quiet_want; (first | (first | (refine quiet_load_agg 39 _ rfl ⟨w.heap.size, 0, none⟩ rfl [.int .i64 b.first, .slice A n cap, .int .i64 b.rate] hcB.out _ Try.underlying39 rfl Bas.size ?_) | (refine quiet_load_agg 56 _ rfl (ad.add (k * 7)) rfl x.row hcH.out _ Try.underlying56 rfl Holding.size ?_))); go_simp; go_big_quiet_on) | go_big_quiet_step ((go_at_call 84; exact past_call (spec_l17Reserve_any b A n cap x _ (HBTn.out.at_past _) Hx.out))))
      refine wpQuiet_nil ?_
      rintro _ ⟨y, rfl⟩
      have HKy := Lib.hid (HKn.out.past y.2)
      have cz : y.1.cell? ⟨w1.heap.size, x.kind.toNat, none⟩ = some (.int .i64 (kindAt b xs x.kind k)) := (HKy.out.cell ⟨kb1, kb2⟩).1
      have fz : y.1.frozen? ⟨w1.heap.size, x.kind.toNat, none⟩ = false := (HKy.out.cell ⟨kb1, kb2⟩).2
      have hby : Below w1.heap.size w1 y.1 := hbn1.trans (y.2.mono hbn1.size)
      go_wp2
      go_roundw
      case rel => exact ⟨k + 1, by omega, by go_num, HKy.out.next HXK.out ⟨kb1, kb2⟩, hby.setCell (Nat.le_refl _) _⟩
      case measure => simp [intOf]; omega
    · have hkn : k = m := by omega
      subst hkn
      go_wp2
      go_ret2
      refine ⟨some ⟨w1.heap.size, 0, none⟩, 4, 4, by rw [Q.out]; rfl, ?_, hb01.trans (hb.mono hb01.size)⟩
      rw [Q.out]
      exact HK.out.res HL.out (by have := hb01.size; omega)

end Go.Proofs.Ytkpppajihgnkcaa
