/- Parts of a proof, one after another: Cols, LifeS, Shelf, DivP. No condition. -/
import Derived.Test.YtbjdbpdgacfcpaaGreatK1
import Derived.Test.YtbjdbpdgacfcpaaGreatK2
import Derived.Test.YtbjdbpdgacfcpaaGreatK3
import Derived.Deep.Cut
import Derived.Deep.DeepCutAuto
import Derived.Shelf.Small.Bits
import Derived.Shelf.Strconv.Itoa0
import Derived.Shelf.Bits.Mul64
import Derived.Test.YtbjdbpdgacfcpaaGreatProg
import Derived.IntWalk
import Derived.Laws.MathBits
import Derived.Lib.BitFns
import Derived.Laws.Bits64b
import Derived.Lib.ItoaNum
/- The list of columns of a life table: the program's contract. -/
section
namespace Go.Proofs.YtbjdbpdgacfcpaaGreat
open Go.RowKit Go.BigFrame

theorem Columns.info : (Tryz.prog.info? 170).map (fun i => (i.zero, i.size, i.bytes)) = some (some (.agg #[.int .i64 0, .int .i64 0, .int .i64 0, .int .i64 0]), 4, 32) := by kernel_rfl
theorem Columns.size : (Tryz.prog.info? 170).map (·.size) = some 4 := by kernel_rfl
theorem columnsLen_any (A : Option Addr) (n cap : Nat) (w : World) :
    Calls Tryz.prog 174 #[.slice A n cap] w fun e w' => e = .returned (.int .i64 n) ∧ w = w' := by
  go_enter Tryz.func174, Tryz.ntmps174
  go_wp2
  go_ret
  exact ⟨rfl, rfl⟩
abbrev colRow (xs : List Int) (rate : Int) (k : Nat) : List Value := [.int .i64 (dC xs rate k), .int .i64 (nC xs rate k), .int .i64 (cC xs rate k), .int .i64 (mC xs rate k)]
def colRows (xs : List Int) (rate : Int) (top : Nat) : List (List Value) := (List.range top).map (colRow xs rate)
theorem colRows_get {xs : List Int} {rate : Int} {top k : Nat} (h : k < top) : (colRows xs rate top)[k]? = some (colRow xs rate k) := by simp [colRows, h]
/-- the rows from k on are there -/
def FromUp (cs : Array Value) (xs : List Int) (rate : Int) (k top : Nat) : Prop := ∀ j : Nat, k ≤ j → j < top → ∀ (i : Nat) (v : Value), (colRow xs rate j)[i]? = some v → cs[j * 4 + i]? = some v
theorem FromUp.step {cs : Array Value} {xs : List Int} {rate : Int} {k top : Nat} (h : FromUp cs xs rate (k + 1) top) (hs : cs.size = top * 4) (hk : k < top) : FromUp (putAt cs (k * 4) (colRow xs rate k)) xs rate k top := by
  intro j hj hjt i v hv
  have hi : i < 4 := (List.getElem?_eq_some_iff.1 hv).1
  have hl : (colRow xs rate k).length = 4 := rfl
  rw [putAt_get (by omega)]
  by_cases e : j = k
  · subst e
    rw [if_neg (by omega), if_pos (by omega), show j * 4 + i - j * 4 = i by omega]; exact hv
  · rw [if_neg (by omega), if_neg (by omega)]
    exact h j (by omega) hjt i v hv
theorem FromUp.rd {w : World} {g : Nat} {t : TypeId} {cs : Array Value} {xs : List Int} {rate : Int} {top : Nat} (hb : Blk w g t cs) (h : FromUp cs xs rate 0 top) : Rd w w.heap.size (some ⟨g, 0, none⟩) 4 (colRows xs rate top) := by
  refine .inr ⟨⟨g, 0, none⟩, rfl, hb.lt, fun k r hr => ?_⟩
  have hk : k < top := by have := (List.getElem?_eq_some_iff.1 hr).1; simpa [colRows] using this
  rw [colRows_get hk] at hr
  injection hr with hr
  subst hr
  refine ⟨rfl, fun j v hv => ?_⟩
  rw [add_none, hb.cell, Nat.zero_add]
  exact h k (by omega) hk j v hv

set_option maxHeartbeats 8000000 in
theorem impl_columnsOf_any (first : Int) (A : Option Addr) (n cap : Nat) (xs : List Int) (rate : Int) (w : World) (hT : LiesT w A n xs) (T : TabOk first xs) (hr : 0 ≤ rate ∧ rate ≤ 200) :
    Calls Tryz.prog 139 #[.agg #[.int .i64 first, .slice A n cap], .int .i64 rate] w fun e w' => ∃ g, e = .returned (.slice (some ⟨g, 0, none⟩) (151 - first).toNat (151 - first).toNat) ∧ Rd w' w'.heap.size (some ⟨g, 0, none⟩) 4 (colRows xs rate (151 - first).toNat) ∧ Below w.heap.size w w' := by
  have hbw : Below w.heap.size w (w.alloc (.cells #[.int .i64 first, .slice A n cap] 26)) := (Below.refl _ w).alloc (Nat.le_refl _) _
  have HB := Lib.hid (Blk.new w 26 #[.int .i64 first, .slice A n cap])
  have HT := Lib.hid (hT.past hbw); clear hT
  obtain ⟨r1, r2⟩ := hr
  have T1 := T.first0; have T2 := T.first1
  have HTab := Lib.hid T; clear T
  obtain ⟨top, htop⟩ := Int.eq_ofNat_of_zero_le (show 0 ≤ 151 - first by omega)
  have HE := Lib.hid (show (151 - first).toNat = top by omega)
  rw [HE.out]
  have htopi : 150 - first + 1 = (top : Int) := by omega
  have htop1 : top ≤ 151 := by omega
  have htop2 : 51 ≤ top := by omega
  have HTop := Lib.hid htop; clear htop
  have HD := Lib.hid (fun k : Nat => dC_bound HTab.out r1 k)
  have HCb := Lib.hid (fun k : Nat => cC_bound HTab.out r1 k)
  have HNb := Lib.hid (fun k : Nat => nC_bound HTab.out r1 k)
  have HMb := Lib.hid (fun k : Nat => mC_bound HTab.out r1 k)
  obtain ⟨i0, hi0, hz0, hz1, hz2⟩ := info_parts Columns.info
  have hmk : ∀ W : World, (Instr.makeSlice 145 (.int .i64 (top : Int)) (.int .i64 (top : Int))).run Tryz.prog W = .ok (.slice (some ⟨W.heap.size, 0, none⟩) top top) (W.alloc (.cells (madeCells (Value.agg #[.int .i64 0, .int .i64 0, .int .i64 0, .int .i64 0]).cells (top * 4)) 170)) := fun W => by
    have h := run_make_rowN (P := Tryz.prog) 145 170 i0 _ Tryz.underlying145 hi0 hz0 .i64 .i64 top top (Nat.le_refl _) (by rw [hz2]; omega) (by omega) W
    rw [hz1] at h
    exact h
  clear hi0 hz0 hz1 hz2
  have HMK := Lib.hid hmk; clear hmk
  go_enter Tryz.func139, Tryz.ntmps139
  go_wp2_with fail
  refine (impl_discounts_any rate _ ⟨r1, r2⟩).mono ?_
  rintro e w1 ⟨AD, cD, rfl, hD, hb1⟩
  have HB1 := Lib.hid (HB.out.below' hb1)
  have HT1 := Lib.hid (HT.out.past hb1)
  have HDR := Lib.hid hD.rd; clear hD
  have hbw1 : Below w.heap.size w w1 := hbw.trans (hb1.mono (by simp))
  have hs1 : w.heap.size + 1 ≤ w1.heap.size := by have := hb1.size; simpa using this
  have c0 : w1.cell? ⟨w.heap.size, 0, none⟩ = some (.int .i64 first) := HB1.out.cell 0
  have hmk := HMK.out w1
  go_wp2_with (first | (go_at_call 174; refine (columnsLen_any _ top top _).mono ?_; rintro e w' ⟨rfl, rfl⟩))
  clear hmk
  go_loopw [8] (fun i wr => ∃ r : Nat, r ≤ top ∧ i = .int .i64 ((r : Int) - 1) ∧ (∃ cs, Blk wr w1.heap.size 170 cs ∧ cs.size = top * 4 ∧ FromUp cs xs rate r top) ∧ Blk wr (w1.heap.size + 1) 170 #[.int .i64 0, .int .i64 (nC xs rate r), .int .i64 0, .int .i64 (mC xs rate r)] ∧ Below w1.heap.size w1 wr) (fun i _ => (intOf i + 1).toNat)
  case atStart =>
    refine ⟨top, by omega, rfl, ⟨_, (Blk.new w1 _ _).alloc _, by simp [madeCells], fun j h1 h2 => by omega⟩, ?_, ((Below.refl _ w1).alloc (Nat.le_refl _) _).alloc (by simp) _⟩
    rw [nC_zero HTab.out top (by have := HTab.out.len1; have := HTab.out.top; have := HTop.out; omega), mC_zero HTab.out top (by have := HTab.out.len1; have := HTab.out.top; have := HTop.out; omega)]
    have := Blk.new (w1.alloc (.cells (madeCells (Value.agg #[.int .i64 0, .int .i64 0, .int .i64 0, .int .i64 0]).cells (top * 4)) 170)) 170 #[.int .i64 0, .int .i64 0, .int .i64 0, .int .i64 0]
    rw [World.size_alloc] at this
    exact this
  case round =>
    obtain ⟨r, hrt, rfl, ⟨cs, hO, hcs, hup⟩, hS, hb⟩ := hrel
    have HO := Lib.hid hO; clear hO
    have HS := Lib.hid hS; clear hS
    have HUp := Lib.hid hup; clear hup
    have Hcs := Lib.hid hcs; clear hcs
    have hsz := hb.size
    have hO1 := HO.out.lt
    have hS1 := HS.out.lt
    cases r with
    | zero =>
      rw [show (((0 : Nat) : Int) - 1) = -1 from rfl]
      go_wp2
      go_ret
      exact ⟨_, rfl, FromUp.rd HO.out HUp.out, hbw1.trans (hb.mono (by omega))⟩
    | succ k =>
      rw [show (((k + 1 : Nat) : Int) - 1) = (k : Int) by omega]
      have hkt : k < top := by omega
      have hki : (k : Int) < (top : Int) := by omega
      have HBr := Lib.hid ((HB1.out.below hb (by omega)).alloc (.cells #[.int .i64 0, .int .i64 0, .int .i64 0, .int .i64 0] 170))
      have HTr := Lib.hid (HT1.out.past (hb.alloc hsz (.cells #[.int .i64 0, .int .i64 0, .int .i64 0, .int .i64 0] 170)))
      have HSr := Lib.hid (HS.out.alloc (.cells #[.int .i64 0, .int .i64 0, .int .i64 0, .int .i64 0] 170))
      have HOr := Lib.hid (HO.out.alloc (.cells #[.int .i64 0, .int .i64 0, .int .i64 0, .int .i64 0] 170))
      have HCr := Lib.hid (Blk.new wr 170 #[.int .i64 0, .int .i64 0, .int .i64 0, .int .i64 0])
      have hbr := hb.alloc hsz (.cells #[.int .i64 0, .int .i64 0, .int .i64 0, .int .i64 0] 170)
      have HDr := Lib.hid (HDR.out.past hbr)
      obtain ⟨d1, d2⟩ := HD.out k
      obtain ⟨wR, hwR⟩ : ∃ wR, wr.alloc (.cells #[.int .i64 0, .int .i64 0, .int .i64 0, .int .i64 0] 170) = wR := ⟨_, rfl⟩
      have HWR := Lib.hid hwR
      rw [hwR] at HBr HTr HSr HOr HCr hbr HDr
      have hR0 : wr.heap.size + 1 = wR.heap.size := by rw [← hwR]; simp
      clear hwR
      by_cases hk120 : k ≤ 120
      · have hk120i : (k : Int) ≤ 120 := by omega
        obtain ⟨ad, hAD, had, hck⟩ := HDr.out.int_at (discL_get rate (show k < 121 by omega))
        subst hAD
        have q0 := fun y : Past wR => Past.cell (p := ⟨w.heap.size, 0, none⟩) (v := .int .i64 first) (HBr.out.cell 0) y
        have q1 := fun y : Past wR => Past.cell hck y
        have hcT := Lib.hid (Blk.agg_past (cs := [.int .i64 first, .slice A n cap]) HBr.out 0 [.int .i64 first, .slice A n cap] rfl)
        have QD := Lib.hid (show lv xs k * disc rate k = dC xs rate k from rfl)
        have hd2 := QD.out
        have HEk := Lib.hid (show (first + (k : Int) - first).toNat = k by omega)
        go_wp2
        rw [HWR.out]
        refine wp_region_past_tail 12 (by kernel_rfl) (by kernel_rfl) ?_
        simp only [List.take_succ_cons, List.take_zero, List.drop_succ_cons, List.drop_zero]
        repeat (first | (go_big_quiet_want; (first | (refine quiet_load_agg 26 _ rfl ⟨w.heap.size, 0, none⟩ rfl [.int .i64 first, .slice A n cap] hcT.out _ Tryz.underlying26 rfl Tab.size ?_)); go_simp; go_big_quiet_on) | go_big_quiet_step ((go_at_call 112; exact past_call ((impl_LifeTable_lives_any first A n cap xs (first + (k : Int)) _ (HTr.out.at_past _) HTab.out ⟨by omega, by omega⟩).mono (by rw [HEk.out]; exact fun _ _ h => h)))))
        refine wpQuiet_nil ?_
        rintro _ ⟨y, rfl⟩
        clear q0 q1 hcT
        have HCy := Lib.hid (HCr.out.below' y.2)
        have HBy := Lib.hid (HBr.out.below' y.2)
        have HTy := Lib.hid (HTr.out.past y.2)
        have HSy := Lib.hid (HSr.out.below' y.2)
        have HOy := Lib.hid (HOr.out.below' y.2)
        have HDy := Lib.hid (HDr.out.past y.2)
        have hby : Below w1.heap.size w1 y.1 := hbr.trans (y.2.mono hbr.size)
        have fz : y.1.frozen? ⟨wr.heap.size, 0, none⟩ = false := HCy.out.frozen 0
        have cz : y.1.cell? ⟨wr.heap.size, 0, none⟩ = some (.int .i64 0) := HCy.out.cell 0
        go_upto_region 10 with (fail)
        clear hd2
        obtain ⟨wa, hwa⟩ : ∃ wa, y.1.setCell ⟨wr.heap.size, 0, none⟩ (.int .i64 (dC xs rate k)) = wa := ⟨_, rfl⟩
        have HCa : Hid (Blk wa wr.heap.size 170 #[.int .i64 (dC xs rate k), .int .i64 0, .int .i64 0, .int .i64 0]) := Lib.hid (by have h9 := HCy.out.set_ 0 (.int .i64 (dC xs rate k)); rw [hwa] at h9; exact h9)
        have HBa := Lib.hid (HBy.out.far (p := ⟨wr.heap.size, 0, none⟩) (by show w.heap.size ≠ wr.heap.size; omega) (.int .i64 (dC xs rate k))); rw [hwa] at HBa
        have HSa := Lib.hid (HSy.out.far (p := ⟨wr.heap.size, 0, none⟩) (by show (w1.heap.size + 1) ≠ wr.heap.size; omega) (.int .i64 (dC xs rate k))); rw [hwa] at HSa
        have HOa := Lib.hid (HOy.out.far (p := ⟨wr.heap.size, 0, none⟩) (by show w1.heap.size ≠ wr.heap.size; omega) (.int .i64 (dC xs rate k))); rw [hwa] at HOa
        have hba := hby.setCell (p := ⟨wr.heap.size, 0, none⟩) (by show w1.heap.size ≤ wr.heap.size; omega) (.int .i64 (dC xs rate k)); rw [hwa] at hba
        have HTa := Lib.hid (HT1.out.past hba)
        have HDa := Lib.hid (HDR.out.past hba)
        rw [hwa]
        clear hwa
        clear fz cz
        by_cases hk119 : k + 1 ≤ 120
        · have hk119i : (k : Int) + 1 ≤ 120 := by omega
          obtain ⟨ad2, hAD2, had2, hck2⟩ := HDa.out.int_at (discL_get rate (show k + 1 < 121 by omega))
          injection hAD2 with hAD2; subst hAD2
          rw [show ad.add (k + 1) = ⟨ad.block, ad.off + (k + 1), none⟩ from by simp [Addr.add]] at hck2
          have q0 := fun y : Past wa => Past.cell (p := ⟨w.heap.size, 0, none⟩) (v := .int .i64 first) (HBa.out.cell 0) y
          have q1 := fun y : Past wa => Past.cell hck2 y
          have hcT := Lib.hid (Blk.agg_past (cs := [.int .i64 first, .slice A n cap]) HBa.out 0 [.int .i64 first, .slice A n cap] rfl)
          have QC := Lib.hid (show (lv xs k - lv xs (k + 1)) * disc rate (k + 1) = cC xs rate k from rfl)
          have hc2 := QC.out
          obtain ⟨g1, g2⟩ := HCb.out k
          obtain ⟨g3, g4⟩ := HD.out (k + 1)
          have HEk := Lib.hid (show (first + (k : Int) - first).toNat = k by omega)
          go_wp2
          refine wp_region_past_tail 13 (by kernel_rfl) (by kernel_rfl) ?_
          simp only [List.take_succ_cons, List.take_zero, List.drop_succ_cons, List.drop_zero]
          repeat (first | (go_big_quiet_want; (first | (refine quiet_load_agg 26 _ rfl ⟨w.heap.size, 0, none⟩ rfl [.int .i64 first, .slice A n cap] hcT.out _ Tryz.underlying26 rfl Tab.size ?_)); go_simp; go_big_quiet_on) | go_big_quiet_step ((go_at_call 111; exact past_call ((impl_LifeTable_deaths_any first A n cap xs (first + (k : Int)) _ (HTa.out.at_past _) HTab.out ⟨by omega, by omega⟩).mono (by rw [HEk.out]; exact fun _ _ h => h)))))
          refine wpQuiet_nil ?_
          rintro _ ⟨z, rfl⟩
          clear q0 q1 hcT
          have HCz := Lib.hid (HCa.out.below' z.2)
          have HBz := Lib.hid (HBa.out.below' z.2)
          have HTz := Lib.hid (HTa.out.past z.2)
          have HSz := Lib.hid (HSa.out.below' z.2)
          have HOz := Lib.hid (HOa.out.below' z.2)
          have HDz := Lib.hid (HDa.out.past z.2)
          have hbz : Below w1.heap.size w1 z.1 := hba.trans (z.2.mono hba.size)
          have fz : z.1.frozen? ⟨wr.heap.size, 2, none⟩ = false := HCz.out.frozen 2
          have cz : z.1.cell? ⟨wr.heap.size, 2, none⟩ = some (.int .i64 0) := HCz.out.cell 2
          go_upto_region 12 with (fail)
          clear hc2
          obtain ⟨wv, hwv⟩ : ∃ wv, z.1.setCell ⟨wr.heap.size, 2, none⟩ (.int .i64 (cC xs rate k)) = wv := ⟨_, rfl⟩
          have HCv : Hid (Blk wv wr.heap.size 170 #[.int .i64 (dC xs rate k), .int .i64 0, .int .i64 (cC xs rate k), .int .i64 0]) := Lib.hid (by have h9 := HCz.out.set_ 2 (.int .i64 (cC xs rate k)); rw [hwv] at h9; exact h9)
          have HBv := Lib.hid (HBz.out.far (p := ⟨wr.heap.size, 2, none⟩) (by show w.heap.size ≠ wr.heap.size; omega) (.int .i64 (cC xs rate k))); rw [hwv] at HBv
          have HSv := Lib.hid (HSz.out.far (p := ⟨wr.heap.size, 2, none⟩) (by show (w1.heap.size + 1) ≠ wr.heap.size; omega) (.int .i64 (cC xs rate k))); rw [hwv] at HSv
          have HOv := Lib.hid (HOz.out.far (p := ⟨wr.heap.size, 2, none⟩) (by show w1.heap.size ≠ wr.heap.size; omega) (.int .i64 (cC xs rate k))); rw [hwv] at HOv
          have hbv := hbz.setCell (p := ⟨wr.heap.size, 2, none⟩) (by show w1.heap.size ≤ wr.heap.size; omega) (.int .i64 (cC xs rate k)); rw [hwv] at hbv
          have HTv := Lib.hid (HT1.out.past hbv)
          have HDv := Lib.hid (HDR.out.past hbv)
          rw [hwv]
          clear hwv
          clear fz cz
          have s1 : wv.cell? ⟨w1.heap.size + 1, 1, none⟩ = some (.int .i64 (nC xs rate (k + 1))) := HSv.out.cell 1
          have c0 : wv.cell? ⟨wr.heap.size, 0, none⟩ = some (.int .i64 (dC xs rate k)) := HCv.out.cell 0
          have sf : wv.frozen? ⟨w1.heap.size + 1, 1, none⟩ = false := HSv.out.frozen 1
          obtain ⟨n1, n2⟩ := HNb.out (k + 1)
          obtain ⟨n3, n4⟩ := HD.out (k + 1)
          have hns : nC xs rate (k + 1) + dC xs rate k = nC xs rate k := by rw [nC_step HTab.out k]; omega
          go_upto_region 13 with (fail)
          have HNS := Lib.hid hns; clear hns
          obtain ⟨we, hwe⟩ : ∃ we, wv.setCell ⟨(w1.heap.size + 1), 1, none⟩ (.int .i64 (nC xs rate k)) = we := ⟨_, rfl⟩
          have HCe := Lib.hid (HCv.out.far (p := ⟨(w1.heap.size + 1), 1, none⟩) (by show wr.heap.size ≠ (w1.heap.size + 1); omega) (.int .i64 (nC xs rate k))); rw [hwe] at HCe
          have HBe := Lib.hid (HBv.out.far (p := ⟨(w1.heap.size + 1), 1, none⟩) (by show w.heap.size ≠ (w1.heap.size + 1); omega) (.int .i64 (nC xs rate k))); rw [hwe] at HBe
          have HSe : Hid (Blk we (w1.heap.size + 1) 170 #[.int .i64 0, .int .i64 (nC xs rate k), .int .i64 0, .int .i64 (mC xs rate (k + 1))]) := Lib.hid (by have h9 := HSv.out.set_ 1 (.int .i64 (nC xs rate k)); rw [hwe] at h9; exact h9)
          have HOe := Lib.hid (HOv.out.far (p := ⟨(w1.heap.size + 1), 1, none⟩) (by show w1.heap.size ≠ (w1.heap.size + 1); omega) (.int .i64 (nC xs rate k))); rw [hwe] at HOe
          have hbe := hbv.setCell (p := ⟨(w1.heap.size + 1), 1, none⟩) (by show w1.heap.size ≤ (w1.heap.size + 1); omega) (.int .i64 (nC xs rate k)); rw [hwe] at hbe
          have HTe := Lib.hid (HT1.out.past hbe)
          have HDe := Lib.hid (HDR.out.past hbe)
          rw [hwe]
          clear hwe
          clear s1 c0 sf
          have s3 : we.cell? ⟨w1.heap.size + 1, 3, none⟩ = some (.int .i64 (mC xs rate (k + 1))) := HSe.out.cell 3
          have c2 : we.cell? ⟨wr.heap.size, 2, none⟩ = some (.int .i64 (cC xs rate k)) := HCe.out.cell 2
          have sf : we.frozen? ⟨w1.heap.size + 1, 3, none⟩ = false := HSe.out.frozen 3
          obtain ⟨m1, m2⟩ := HMb.out (k + 1)
          obtain ⟨m3, m4⟩ := HCb.out k
          have hms : mC xs rate (k + 1) + cC xs rate k = mC xs rate k := by rw [mC_step HTab.out k]; omega
          go_upto_region 14 with (fail)
          have HMS := Lib.hid hms; clear hms
          obtain ⟨wf, hwf⟩ : ∃ wf, we.setCell ⟨(w1.heap.size + 1), 3, none⟩ (.int .i64 (mC xs rate k)) = wf := ⟨_, rfl⟩
          have HCf := Lib.hid (HCe.out.far (p := ⟨(w1.heap.size + 1), 3, none⟩) (by show wr.heap.size ≠ (w1.heap.size + 1); omega) (.int .i64 (mC xs rate k))); rw [hwf] at HCf
          have HBf := Lib.hid (HBe.out.far (p := ⟨(w1.heap.size + 1), 3, none⟩) (by show w.heap.size ≠ (w1.heap.size + 1); omega) (.int .i64 (mC xs rate k))); rw [hwf] at HBf
          have HSf : Hid (Blk wf (w1.heap.size + 1) 170 #[.int .i64 0, .int .i64 (nC xs rate k), .int .i64 0, .int .i64 (mC xs rate k)]) := Lib.hid (by have h9 := HSe.out.set_ 3 (.int .i64 (mC xs rate k)); rw [hwf] at h9; exact h9)
          have HOf := Lib.hid (HOe.out.far (p := ⟨(w1.heap.size + 1), 3, none⟩) (by show w1.heap.size ≠ (w1.heap.size + 1); omega) (.int .i64 (mC xs rate k))); rw [hwf] at HOf
          have hbf := hbe.setCell (p := ⟨(w1.heap.size + 1), 3, none⟩) (by show w1.heap.size ≤ (w1.heap.size + 1); omega) (.int .i64 (mC xs rate k)); rw [hwf] at hbf
          have HTf := Lib.hid (HT1.out.past hbf)
          have HDf := Lib.hid (HDR.out.past hbf)
          rw [hwf]
          clear hwf
          clear s3 c2 sf
          have s1 : wf.cell? ⟨w1.heap.size + 1, 1, none⟩ = some (.int .i64 (nC xs rate k)) := HSf.out.cell 1
          have s3 : wf.cell? ⟨w1.heap.size + 1, 3, none⟩ = some (.int .i64 (mC xs rate k)) := HSf.out.cell 3
          have e1 : wf.cell? ⟨wr.heap.size, 1, none⟩ = some (.int .i64 0) := HCf.out.cell 1
          have e3 : wf.cell? ⟨wr.heap.size, 3, none⟩ = some (.int .i64 0) := HCf.out.cell 3
          have fz1 : wf.frozen? ⟨wr.heap.size, 1, none⟩ = false := HCf.out.frozen 1
          have fz3 : wf.frozen? ⟨wr.heap.size, 3, none⟩ = false := HCf.out.frozen 3
          have hne : ¬ w1.heap.size + 1 = wr.heap.size := by omega
          have hne2 : ¬ wr.heap.size = w1.heap.size + 1 := by omega
          go_region
          obtain ⟨wg, hwg⟩ : ∃ wg, ((wf.setCell ⟨wr.heap.size, 1, none⟩ (.int .i64 (nC xs rate k))).setCell ⟨wr.heap.size, 3, none⟩ (.int .i64 (mC xs rate k))).drew = wg := ⟨_, rfl⟩
          have HCg : Hid (Blk wg wr.heap.size 170 (colRow xs rate k).toArray) := Lib.hid (by have h9 := ((HCf.out.set_ 1 (.int .i64 (nC xs rate k))).set_ 3 (.int .i64 (mC xs rate k))).drew; rw [hwg] at h9; exact h9)
          have HSg := Lib.hid (((HSf.out.far (p := ⟨wr.heap.size, 1, none⟩) (by show w1.heap.size + 1 ≠ wr.heap.size; omega) (.int .i64 (nC xs rate k))).far (p := ⟨wr.heap.size, 3, none⟩) (by show w1.heap.size + 1 ≠ wr.heap.size; omega) (.int .i64 (mC xs rate k))).drew); rw [hwg] at HSg
          have HOg := Lib.hid (((HOf.out.far (p := ⟨wr.heap.size, 1, none⟩) (by show w1.heap.size ≠ wr.heap.size; omega) (.int .i64 (nC xs rate k))).far (p := ⟨wr.heap.size, 3, none⟩) (by show w1.heap.size ≠ wr.heap.size; omega) (.int .i64 (mC xs rate k))).drew); rw [hwg] at HOg
          have hbg := ((hbf.setCell (p := ⟨wr.heap.size, 1, none⟩) (by show w1.heap.size ≤ wr.heap.size; omega) (.int .i64 (nC xs rate k))).setCell (p := ⟨wr.heap.size, 3, none⟩) (by show w1.heap.size ≤ wr.heap.size; omega) (.int .i64 (mC xs rate k))).drew; rw [hwg] at hbg
          rw [hwg]
          clear hwg s1 s3 e1 e3 fz1 fz3
          have hcC := Lib.hid (Blk.agg (cs := colRow xs rate k) HCg.out 0 (colRow xs rate k) rfl)
          have hfit : k * 4 + (colRow xs rate k).length ≤ cs.size := by rw [Hcs.out]; show k * 4 + 4 ≤ top * 4; omega
          have hsg := hbg.size
          have H1c : Hid (∀ v ∈ colRow xs rate k, v.oneCell' = true) := Lib.hid (by simp [Value.oneCell'])
          go_wp2_with (first | (refine wpList_load_agg rfl 170 _ rfl ⟨wr.heap.size, 0, none⟩ rfl (colRow xs rate k) hcC.out _ Tryz.underlying170 rfl Columns.size ?_) | (refine wpList_store_agg rfl 170 _ _ rfl w1.heap.size (k * 4) (colRow xs rate k) rfl rfl 170 cs HOg.out Columns.size hfit H1c.out ?_))
          intro w9 hcs9 hg9 hs9
          have HO9 := Lib.hid hcs9; clear hcs9
          have HS9 := Lib.hid (HSg.out.grown hg9 (by intro e; injection e with e; omega))
          have hb9 : Below w1.heap.size w1 w9 := hbg.trans (below_grown hg9 (by omega))
          clear hg9 hs9
          go_wp2
          go_roundw
          case rel => exact ⟨k, by omega, by go_num, ⟨_, HO9.out, by rw [putAt_size hfit]; exact Hcs.out, FromUp.step HUp.out Hcs.out hkt⟩, HS9.out, hb9⟩
          case measure => simp [intOf] <;> omega
        have hk119i : ¬ (k : Int) + 1 ≤ 120 := by omega
        have hc0 : cC xs rate k = 0 := cC_zero HTab.out k (by have := HTab.out.len1; omega)
        have HCx : Hid (Blk wa wr.heap.size 170 #[.int .i64 (dC xs rate k), .int .i64 0, .int .i64 (cC xs rate k), .int .i64 0]) := Lib.hid (by rw [hc0]; exact HCa.out)
        clear HCa hc0
        have HCa := HCx
        clear HCx
        go_upto_region 12 with (fail)
        have s1 : wa.cell? ⟨w1.heap.size + 1, 1, none⟩ = some (.int .i64 (nC xs rate (k + 1))) := HSa.out.cell 1
        have c0 : wa.cell? ⟨wr.heap.size, 0, none⟩ = some (.int .i64 (dC xs rate k)) := HCa.out.cell 0
        have sf : wa.frozen? ⟨w1.heap.size + 1, 1, none⟩ = false := HSa.out.frozen 1
        obtain ⟨n1, n2⟩ := HNb.out (k + 1)
        obtain ⟨n3, n4⟩ := HD.out (k + 1)
        have hns : nC xs rate (k + 1) + dC xs rate k = nC xs rate k := by rw [nC_step HTab.out k]; omega
        go_upto_region 13 with (fail)
        have HNS := Lib.hid hns; clear hns
        obtain ⟨we, hwe⟩ : ∃ we, wa.setCell ⟨(w1.heap.size + 1), 1, none⟩ (.int .i64 (nC xs rate k)) = we := ⟨_, rfl⟩
        have HCe := Lib.hid (HCa.out.far (p := ⟨(w1.heap.size + 1), 1, none⟩) (by show wr.heap.size ≠ (w1.heap.size + 1); omega) (.int .i64 (nC xs rate k))); rw [hwe] at HCe
        have HBe := Lib.hid (HBa.out.far (p := ⟨(w1.heap.size + 1), 1, none⟩) (by show w.heap.size ≠ (w1.heap.size + 1); omega) (.int .i64 (nC xs rate k))); rw [hwe] at HBe
        have HSe : Hid (Blk we (w1.heap.size + 1) 170 #[.int .i64 0, .int .i64 (nC xs rate k), .int .i64 0, .int .i64 (mC xs rate (k + 1))]) := Lib.hid (by have h9 := HSa.out.set_ 1 (.int .i64 (nC xs rate k)); rw [hwe] at h9; exact h9)
        have HOe := Lib.hid (HOa.out.far (p := ⟨(w1.heap.size + 1), 1, none⟩) (by show w1.heap.size ≠ (w1.heap.size + 1); omega) (.int .i64 (nC xs rate k))); rw [hwe] at HOe
        have hbe := hba.setCell (p := ⟨(w1.heap.size + 1), 1, none⟩) (by show w1.heap.size ≤ (w1.heap.size + 1); omega) (.int .i64 (nC xs rate k)); rw [hwe] at hbe
        have HTe := Lib.hid (HT1.out.past hbe)
        have HDe := Lib.hid (HDR.out.past hbe)
        rw [hwe]
        clear hwe
        clear s1 c0 sf
        have s3 : we.cell? ⟨w1.heap.size + 1, 3, none⟩ = some (.int .i64 (mC xs rate (k + 1))) := HSe.out.cell 3
        have c2 : we.cell? ⟨wr.heap.size, 2, none⟩ = some (.int .i64 (cC xs rate k)) := HCe.out.cell 2
        have sf : we.frozen? ⟨w1.heap.size + 1, 3, none⟩ = false := HSe.out.frozen 3
        obtain ⟨m1, m2⟩ := HMb.out (k + 1)
        obtain ⟨m3, m4⟩ := HCb.out k
        have hms : mC xs rate (k + 1) + cC xs rate k = mC xs rate k := by rw [mC_step HTab.out k]; omega
        go_upto_region 14 with (fail)
        have HMS := Lib.hid hms; clear hms
        obtain ⟨wf, hwf⟩ : ∃ wf, we.setCell ⟨(w1.heap.size + 1), 3, none⟩ (.int .i64 (mC xs rate k)) = wf := ⟨_, rfl⟩
        have HCf := Lib.hid (HCe.out.far (p := ⟨(w1.heap.size + 1), 3, none⟩) (by show wr.heap.size ≠ (w1.heap.size + 1); omega) (.int .i64 (mC xs rate k))); rw [hwf] at HCf
        have HBf := Lib.hid (HBe.out.far (p := ⟨(w1.heap.size + 1), 3, none⟩) (by show w.heap.size ≠ (w1.heap.size + 1); omega) (.int .i64 (mC xs rate k))); rw [hwf] at HBf
        have HSf : Hid (Blk wf (w1.heap.size + 1) 170 #[.int .i64 0, .int .i64 (nC xs rate k), .int .i64 0, .int .i64 (mC xs rate k)]) := Lib.hid (by have h9 := HSe.out.set_ 3 (.int .i64 (mC xs rate k)); rw [hwf] at h9; exact h9)
        have HOf := Lib.hid (HOe.out.far (p := ⟨(w1.heap.size + 1), 3, none⟩) (by show w1.heap.size ≠ (w1.heap.size + 1); omega) (.int .i64 (mC xs rate k))); rw [hwf] at HOf
        have hbf := hbe.setCell (p := ⟨(w1.heap.size + 1), 3, none⟩) (by show w1.heap.size ≤ (w1.heap.size + 1); omega) (.int .i64 (mC xs rate k)); rw [hwf] at hbf
        have HTf := Lib.hid (HT1.out.past hbf)
        have HDf := Lib.hid (HDR.out.past hbf)
        rw [hwf]
        clear hwf
        clear s3 c2 sf
        have s1 : wf.cell? ⟨w1.heap.size + 1, 1, none⟩ = some (.int .i64 (nC xs rate k)) := HSf.out.cell 1
        have s3 : wf.cell? ⟨w1.heap.size + 1, 3, none⟩ = some (.int .i64 (mC xs rate k)) := HSf.out.cell 3
        have e1 : wf.cell? ⟨wr.heap.size, 1, none⟩ = some (.int .i64 0) := HCf.out.cell 1
        have e3 : wf.cell? ⟨wr.heap.size, 3, none⟩ = some (.int .i64 0) := HCf.out.cell 3
        have fz1 : wf.frozen? ⟨wr.heap.size, 1, none⟩ = false := HCf.out.frozen 1
        have fz3 : wf.frozen? ⟨wr.heap.size, 3, none⟩ = false := HCf.out.frozen 3
        have hne : ¬ w1.heap.size + 1 = wr.heap.size := by omega
        have hne2 : ¬ wr.heap.size = w1.heap.size + 1 := by omega
        go_region
        obtain ⟨wg, hwg⟩ : ∃ wg, ((wf.setCell ⟨wr.heap.size, 1, none⟩ (.int .i64 (nC xs rate k))).setCell ⟨wr.heap.size, 3, none⟩ (.int .i64 (mC xs rate k))).drew = wg := ⟨_, rfl⟩
        have HCg : Hid (Blk wg wr.heap.size 170 (colRow xs rate k).toArray) := Lib.hid (by have h9 := ((HCf.out.set_ 1 (.int .i64 (nC xs rate k))).set_ 3 (.int .i64 (mC xs rate k))).drew; rw [hwg] at h9; exact h9)
        have HSg := Lib.hid (((HSf.out.far (p := ⟨wr.heap.size, 1, none⟩) (by show w1.heap.size + 1 ≠ wr.heap.size; omega) (.int .i64 (nC xs rate k))).far (p := ⟨wr.heap.size, 3, none⟩) (by show w1.heap.size + 1 ≠ wr.heap.size; omega) (.int .i64 (mC xs rate k))).drew); rw [hwg] at HSg
        have HOg := Lib.hid (((HOf.out.far (p := ⟨wr.heap.size, 1, none⟩) (by show w1.heap.size ≠ wr.heap.size; omega) (.int .i64 (nC xs rate k))).far (p := ⟨wr.heap.size, 3, none⟩) (by show w1.heap.size ≠ wr.heap.size; omega) (.int .i64 (mC xs rate k))).drew); rw [hwg] at HOg
        have hbg := ((hbf.setCell (p := ⟨wr.heap.size, 1, none⟩) (by show w1.heap.size ≤ wr.heap.size; omega) (.int .i64 (nC xs rate k))).setCell (p := ⟨wr.heap.size, 3, none⟩) (by show w1.heap.size ≤ wr.heap.size; omega) (.int .i64 (mC xs rate k))).drew; rw [hwg] at hbg
        rw [hwg]
        clear hwg s1 s3 e1 e3 fz1 fz3
        have hcC := Lib.hid (Blk.agg (cs := colRow xs rate k) HCg.out 0 (colRow xs rate k) rfl)
        have hfit : k * 4 + (colRow xs rate k).length ≤ cs.size := by rw [Hcs.out]; show k * 4 + 4 ≤ top * 4; omega
        have hsg := hbg.size
        have H1c : Hid (∀ v ∈ colRow xs rate k, v.oneCell' = true) := Lib.hid (by simp [Value.oneCell'])
        go_wp2_with (first | (refine wpList_load_agg rfl 170 _ rfl ⟨wr.heap.size, 0, none⟩ rfl (colRow xs rate k) hcC.out _ Tryz.underlying170 rfl Columns.size ?_) | (refine wpList_store_agg rfl 170 _ _ rfl w1.heap.size (k * 4) (colRow xs rate k) rfl rfl 170 cs HOg.out Columns.size hfit H1c.out ?_))
        intro w9 hcs9 hg9 hs9
        have HO9 := Lib.hid hcs9; clear hcs9
        have HS9 := Lib.hid (HSg.out.grown hg9 (by intro e; injection e with e; omega))
        have hb9 : Below w1.heap.size w1 w9 := hbg.trans (below_grown hg9 (by omega))
        clear hg9 hs9
        go_wp2
        go_roundw
        case rel => exact ⟨k, by omega, by go_num, ⟨_, HO9.out, by rw [putAt_size hfit]; exact Hcs.out, FromUp.step HUp.out Hcs.out hkt⟩, HS9.out, hb9⟩
        case measure => simp [intOf] <;> omega
      have hk120i : ¬ (k : Int) ≤ 120 := by omega
      have hk119i : ¬ (k : Int) + 1 ≤ 120 := by omega
      have hd0 : dC xs rate k = 0 := dC_zero HTab.out k (by have := HTab.out.len1; omega)
      have hc0 : cC xs rate k = 0 := cC_zero HTab.out k (by have := HTab.out.len1; omega)
      have HCx : Hid (Blk wR wr.heap.size 170 #[.int .i64 (dC xs rate k), .int .i64 0, .int .i64 (cC xs rate k), .int .i64 0]) := Lib.hid (by rw [hc0, hd0]; exact HCr.out)
      clear HCr hc0 hd0
      have HCr := HCx
      clear HCx
      go_upto_region 12 with (fail)
      rw [HWR.out]
      have s1 : wR.cell? ⟨w1.heap.size + 1, 1, none⟩ = some (.int .i64 (nC xs rate (k + 1))) := HSr.out.cell 1
      have c0 : wR.cell? ⟨wr.heap.size, 0, none⟩ = some (.int .i64 (dC xs rate k)) := HCr.out.cell 0
      have sf : wR.frozen? ⟨w1.heap.size + 1, 1, none⟩ = false := HSr.out.frozen 1
      obtain ⟨n1, n2⟩ := HNb.out (k + 1)
      obtain ⟨n3, n4⟩ := HD.out (k + 1)
      have hns : nC xs rate (k + 1) + dC xs rate k = nC xs rate k := by rw [nC_step HTab.out k]; omega
      go_upto_region 13 with (fail)
      have HNS := Lib.hid hns; clear hns
      obtain ⟨we, hwe⟩ : ∃ we, wR.setCell ⟨(w1.heap.size + 1), 1, none⟩ (.int .i64 (nC xs rate k)) = we := ⟨_, rfl⟩
      have HCe := Lib.hid (HCr.out.far (p := ⟨(w1.heap.size + 1), 1, none⟩) (by show wr.heap.size ≠ (w1.heap.size + 1); omega) (.int .i64 (nC xs rate k))); rw [hwe] at HCe
      have HBe := Lib.hid (HBr.out.far (p := ⟨(w1.heap.size + 1), 1, none⟩) (by show w.heap.size ≠ (w1.heap.size + 1); omega) (.int .i64 (nC xs rate k))); rw [hwe] at HBe
      have HSe : Hid (Blk we (w1.heap.size + 1) 170 #[.int .i64 0, .int .i64 (nC xs rate k), .int .i64 0, .int .i64 (mC xs rate (k + 1))]) := Lib.hid (by have h9 := HSr.out.set_ 1 (.int .i64 (nC xs rate k)); rw [hwe] at h9; exact h9)
      have HOe := Lib.hid (HOr.out.far (p := ⟨(w1.heap.size + 1), 1, none⟩) (by show w1.heap.size ≠ (w1.heap.size + 1); omega) (.int .i64 (nC xs rate k))); rw [hwe] at HOe
      have hbe := hbr.setCell (p := ⟨(w1.heap.size + 1), 1, none⟩) (by show w1.heap.size ≤ (w1.heap.size + 1); omega) (.int .i64 (nC xs rate k)); rw [hwe] at hbe
      have HTe := Lib.hid (HT1.out.past hbe)
      have HDe := Lib.hid (HDR.out.past hbe)
      rw [hwe]
      clear hwe
      clear s1 c0 sf
      have s3 : we.cell? ⟨w1.heap.size + 1, 3, none⟩ = some (.int .i64 (mC xs rate (k + 1))) := HSe.out.cell 3
      have c2 : we.cell? ⟨wr.heap.size, 2, none⟩ = some (.int .i64 (cC xs rate k)) := HCe.out.cell 2
      have sf : we.frozen? ⟨w1.heap.size + 1, 3, none⟩ = false := HSe.out.frozen 3
      obtain ⟨m1, m2⟩ := HMb.out (k + 1)
      obtain ⟨m3, m4⟩ := HCb.out k
      have hms : mC xs rate (k + 1) + cC xs rate k = mC xs rate k := by rw [mC_step HTab.out k]; omega
      go_upto_region 14 with (fail)
      have HMS := Lib.hid hms; clear hms
      obtain ⟨wf, hwf⟩ : ∃ wf, we.setCell ⟨(w1.heap.size + 1), 3, none⟩ (.int .i64 (mC xs rate k)) = wf := ⟨_, rfl⟩
      have HCf := Lib.hid (HCe.out.far (p := ⟨(w1.heap.size + 1), 3, none⟩) (by show wr.heap.size ≠ (w1.heap.size + 1); omega) (.int .i64 (mC xs rate k))); rw [hwf] at HCf
      have HBf := Lib.hid (HBe.out.far (p := ⟨(w1.heap.size + 1), 3, none⟩) (by show w.heap.size ≠ (w1.heap.size + 1); omega) (.int .i64 (mC xs rate k))); rw [hwf] at HBf
      have HSf : Hid (Blk wf (w1.heap.size + 1) 170 #[.int .i64 0, .int .i64 (nC xs rate k), .int .i64 0, .int .i64 (mC xs rate k)]) := Lib.hid (by have h9 := HSe.out.set_ 3 (.int .i64 (mC xs rate k)); rw [hwf] at h9; exact h9)
      have HOf := Lib.hid (HOe.out.far (p := ⟨(w1.heap.size + 1), 3, none⟩) (by show w1.heap.size ≠ (w1.heap.size + 1); omega) (.int .i64 (mC xs rate k))); rw [hwf] at HOf
      have hbf := hbe.setCell (p := ⟨(w1.heap.size + 1), 3, none⟩) (by show w1.heap.size ≤ (w1.heap.size + 1); omega) (.int .i64 (mC xs rate k)); rw [hwf] at hbf
      have HTf := Lib.hid (HT1.out.past hbf)
      have HDf := Lib.hid (HDR.out.past hbf)
      rw [hwf]
      clear hwf
      clear s3 c2 sf
      have s1 : wf.cell? ⟨w1.heap.size + 1, 1, none⟩ = some (.int .i64 (nC xs rate k)) := HSf.out.cell 1
      have s3 : wf.cell? ⟨w1.heap.size + 1, 3, none⟩ = some (.int .i64 (mC xs rate k)) := HSf.out.cell 3
      have e1 : wf.cell? ⟨wr.heap.size, 1, none⟩ = some (.int .i64 0) := HCf.out.cell 1
      have e3 : wf.cell? ⟨wr.heap.size, 3, none⟩ = some (.int .i64 0) := HCf.out.cell 3
      have fz1 : wf.frozen? ⟨wr.heap.size, 1, none⟩ = false := HCf.out.frozen 1
      have fz3 : wf.frozen? ⟨wr.heap.size, 3, none⟩ = false := HCf.out.frozen 3
      have hne : ¬ w1.heap.size + 1 = wr.heap.size := by omega
      have hne2 : ¬ wr.heap.size = w1.heap.size + 1 := by omega
      go_region
      obtain ⟨wg, hwg⟩ : ∃ wg, ((wf.setCell ⟨wr.heap.size, 1, none⟩ (.int .i64 (nC xs rate k))).setCell ⟨wr.heap.size, 3, none⟩ (.int .i64 (mC xs rate k))).drew = wg := ⟨_, rfl⟩
      have HCg : Hid (Blk wg wr.heap.size 170 (colRow xs rate k).toArray) := Lib.hid (by have h9 := ((HCf.out.set_ 1 (.int .i64 (nC xs rate k))).set_ 3 (.int .i64 (mC xs rate k))).drew; rw [hwg] at h9; exact h9)
      have HSg := Lib.hid (((HSf.out.far (p := ⟨wr.heap.size, 1, none⟩) (by show w1.heap.size + 1 ≠ wr.heap.size; omega) (.int .i64 (nC xs rate k))).far (p := ⟨wr.heap.size, 3, none⟩) (by show w1.heap.size + 1 ≠ wr.heap.size; omega) (.int .i64 (mC xs rate k))).drew); rw [hwg] at HSg
      have HOg := Lib.hid (((HOf.out.far (p := ⟨wr.heap.size, 1, none⟩) (by show w1.heap.size ≠ wr.heap.size; omega) (.int .i64 (nC xs rate k))).far (p := ⟨wr.heap.size, 3, none⟩) (by show w1.heap.size ≠ wr.heap.size; omega) (.int .i64 (mC xs rate k))).drew); rw [hwg] at HOg
      have hbg := ((hbf.setCell (p := ⟨wr.heap.size, 1, none⟩) (by show w1.heap.size ≤ wr.heap.size; omega) (.int .i64 (nC xs rate k))).setCell (p := ⟨wr.heap.size, 3, none⟩) (by show w1.heap.size ≤ wr.heap.size; omega) (.int .i64 (mC xs rate k))).drew; rw [hwg] at hbg
      rw [hwg]
      clear hwg s1 s3 e1 e3 fz1 fz3
      have hcC := Lib.hid (Blk.agg (cs := colRow xs rate k) HCg.out 0 (colRow xs rate k) rfl)
      have hfit : k * 4 + (colRow xs rate k).length ≤ cs.size := by rw [Hcs.out]; show k * 4 + 4 ≤ top * 4; omega
      have hsg := hbg.size
      have H1c : Hid (∀ v ∈ colRow xs rate k, v.oneCell' = true) := Lib.hid (by simp [Value.oneCell'])
      go_wp2_with (first | (refine wpList_load_agg rfl 170 _ rfl ⟨wr.heap.size, 0, none⟩ rfl (colRow xs rate k) hcC.out _ Tryz.underlying170 rfl Columns.size ?_) | (refine wpList_store_agg rfl 170 _ _ rfl w1.heap.size (k * 4) (colRow xs rate k) rfl rfl 170 cs HOg.out Columns.size hfit H1c.out ?_))
      intro w9 hcs9 hg9 hs9
      have HO9 := Lib.hid hcs9; clear hcs9
      have HS9 := Lib.hid (HSg.out.grown hg9 (by intro e; injection e with e; omega))
      have hb9 : Below w1.heap.size w1 w9 := hbg.trans (below_grown hg9 (by omega))
      clear hg9 hs9
      go_wp2
      go_roundw
      case rel => exact ⟨k, by omega, by go_num, ⟨_, HO9.out, by rw [putAt_size hfit]; exact Hcs.out, FromUp.step HUp.out Hcs.out hkt⟩, HS9.out, hb9⟩
      case measure => simp [intOf] <;> omega
end Go.Proofs.YtbjdbpdgacfcpaaGreat
end

/- Life tables: whether they are valid: the reference's contract. -/
section
namespace Go.Proofs.YtbjdbpdgacfcpaaGreat
open Go.RowKit Go.BigFrame
theorem table_no {first : Int} {xs : List Int} (h : TabOk first xs → False) : tableB first xs = false := by
  cases e : tableB first xs
  · rfl
  · exact (h (table_ok e)).elim
theorem table_yes {first : Int} {xs : List Int} {n : Nat} (hl : xs.length = n) (h1 : inR first 0 100 = true) (h2 : 2 ≤ n ∧ n ≤ 120) (h3 : 1 ≤ lv xs 0 ∧ lv xs 0 ≤ 1000000) (h4 : lv xs (n - 1) = 0) (h5 : first + (n : Int) - 1 ≤ 150)
    (h6 : ∀ i : Nat, 1 ≤ i → i < n → lv xs i ≤ lv xs (i - 1) ∧ (i + 1 < n → 1 ≤ lv xs i)) : tableB first xs = true := by
  have e : headB first xs = true := by
    have : inR (n : Int) 2 120 = true := inR_true.2 (by omega)
    simp [headB, hl, h1, this, h3, h4, h5]
  rw [tableB, e, Bool.true_and, List.all_eq_true]
  intro i hi
  rw [hl] at hi
  have hi' : i < n - 1 := by simpa using hi
  by_cases h0 : i = 0
  · subst h0; simp [rowB, h3]
  · have := h6 i (by omega) (by omega)
    simp only [rowB, Bool.and_eq_true, Bool.or_eq_true, decide_eq_true_eq]
    exact ⟨this.2 (by omega), .inr this.1⟩

set_option maxHeartbeats 4000000 in
theorem spec_IsLifeTable_any (first : Int) (A : Option Addr) (n cap : Nat) (xs : List Int) (w : World) (hT : LiesT w A n xs) (_hcap : n ≤ cap) (_hf : In64 first) :
    Calls Tryz.prog 84 #[.agg #[.int .i64 first, .slice A n cap]] w fun e w' => e = .returned (.bool (tableB first xs)) ∧ Below w.heap.size w w' := by
  have hbw : Below w.heap.size w (w.alloc (.cells #[.int .i64 first, .slice A n cap] 26)) := (Below.refl _ w).alloc (Nat.le_refl _) _
  have HT := Lib.hid (hT.past hbw); clear hT
  have HB := Lib.hid (Blk.new w 26 #[.int .i64 first, .slice A n cap])
  have hn := HT.out.small
  have HL := Lib.hid HT.out.len
  by_cases h2 : 2 ≤ n
  rotate_left
  · have Q := Lib.hid (show tableB first xs = false from table_no fun T => by have := T.len0; have := HL.out; omega)
    go_enter Tryz.func84, Tryz.ntmps84
    go_wp2_with (first | (go_at_call 85; refine (spec_l01In_any _ _ _ _).mono ?_; rintro e w' ⟨rfl, rfl⟩))
    go_ret
    exact ⟨by rw [Q.out]; rfl, hbw⟩
  by_cases h2' : n ≤ 120
  rotate_left
  · have Q := Lib.hid (show tableB first xs = false from table_no fun T => by have := T.len1; have := HL.out; omega)
    go_enter Tryz.func84, Tryz.ntmps84
    go_wp2_with (first | (go_at_call 85; refine (spec_l01In_any _ _ _ _).mono ?_; rintro e w' ⟨rfl, rfl⟩))
    go_ret
    exact ⟨by rw [Q.out]; rfl, hbw⟩
  by_cases h1 : inR first 0 100 = true
  rotate_left
  · have h1' : inR first 0 100 = false := by simpa using h1
    have Q := Lib.hid (show tableB first xs = false from table_no fun T => by have := inR_mk (hi := 100) ⟨T.first0, T.first1⟩; rw [h1'] at this; cases this)
    clear h1
    go_enter Tryz.func84, Tryz.ntmps84
    go_wp2_with (first | (go_at_call 85; refine (spec_l01In_any _ _ _ _).mono ?_; rintro e w' ⟨rfl, rfl⟩))
    go_ret
    exact ⟨by rw [Q.out]; rfl, hbw⟩
  obtain ⟨f1, f2⟩ := inR_true.1 h1
  obtain ⟨ad, rfl, had, hc0⟩ := HT.out.at_ (k := 0) (by omega)
  rw [add_zero_at] at hc0
  have hadb : ad.block < w.heap.size + 1 := by simpa using had
  by_cases h3 : inR (lv xs 0) 1 1000000 = true
  rotate_left
  · have h3' : inR (lv xs 0) 1 1000000 = false := by simpa using h3
    have Q := Lib.hid (show tableB first xs = false from table_no fun T => by have := inR_mk (hi := 1000000) ⟨T.pos 0 (by have := HL.out; omega), T.most 0⟩; rw [h3'] at this; cases this)
    clear h3
    go_enter Tryz.func84, Tryz.ntmps84
    go_wp2_with (first | (go_at_call 85; refine (spec_l01In_any _ _ _ _).mono ?_; rintro e w' ⟨rfl, rfl⟩))
    go_ret
    exact ⟨by rw [Q.out]; rfl, hbw⟩
  obtain ⟨m, hm⟩ : ∃ m : Nat, n = m + 1 := ⟨n - 1, by omega⟩
  have hmi : (n : Int) - 1 = (m : Int) := by omega
  have HM := Lib.hid hm; clear hm
  have hmn : m < n := by have := HM.out; omega
  obtain ⟨ad', had', had2, hcm⟩ := HT.out.at_ (k := m) hmn
  injection had' with had'; subst had'
  by_cases h4 : lv xs m = 0
  rotate_left
  · have Q := Lib.hid (show tableB first xs = false from table_no fun T => h4 (T.zero m (by have := HL.out; have := HM.out; omega)))
    go_enter Tryz.func84, Tryz.ntmps84
    go_wp2_with (first | (go_at_call 85; refine (spec_l01In_any _ _ _ _).mono ?_; rintro e w' ⟨rfl, rfl⟩))
    go_ret
    exact ⟨by rw [Q.out]; rfl, hbw⟩
  have H4 := Lib.hid h4
  rw [h4] at hcm
  clear h4
  by_cases h5 : first + (n : Int) - 1 ≤ 150
  rotate_left
  · have Q := Lib.hid (show tableB first xs = false from table_no fun T => h5 (by have := T.top; rw [HL.out] at this; exact this))
    go_enter Tryz.func84, Tryz.ntmps84
    go_wp2_with (first | (go_at_call 85; refine (spec_l01In_any _ _ _ _).mono ?_; rintro e w' ⟨rfl, rfl⟩))
    go_ret
    exact ⟨by rw [Q.out]; rfl, hbw⟩
  have QY := Lib.hid (fun h6 => table_yes (first := first) HL.out h1 ⟨h2, h2'⟩ (inR_true.1 h3) (by rw [show n - 1 = m by have := HM.out; omega]; exact H4.out) h5 h6)
  go_enter Tryz.func84, Tryz.ntmps84
  go_wp2_with (first | (go_at_call 85; refine (spec_l01In_any _ _ _ _).mono ?_; rintro e w' ⟨rfl, rfl⟩))
  go_loopw [4] (fun i wr => ∃ k : Nat, 1 ≤ k ∧ k ≤ n ∧ i = .int .i64 k ∧ Hid (∀ i : Nat, 1 ≤ i → i < k → lv xs i ≤ lv xs (i - 1) ∧ (i + 1 < n → 1 ≤ lv xs i)) ∧ Below (w.heap.size + 1) (w.alloc (.cells #[.int .i64 first, .slice (some ad) n cap] 26)) wr) (fun i _ => n - (intOf i).toNat)
  case atStart => exact ⟨1, by omega, by omega, rfl, Lib.hid (fun i h h' => by omega), Below.refl _ _⟩
  case round =>
    obtain ⟨k, hk1, hk, rfl, HA, hb⟩ := hrel
    have hbb : Below w.heap.size w wr := hbw.trans (hb.mono (by omega))
    have b0 : wr.cell? ⟨w.heap.size, 0, none⟩ = some (.int .i64 first) := (HB.out.below hb (by omega)).cell 0
    have b1 : wr.cell? ⟨w.heap.size, 1, none⟩ = some (.slice (some ad) n cap) := (HB.out.below hb (by omega)).cell 1
    by_cases hlt : k < n
    rotate_left
    · have hkn : k = n := by omega
      subst hkn
      have Q := Lib.hid (QY.out HA.out)
      go_wp2
      go_ret
      exact ⟨by rw [Q.out]; rfl, hbb⟩
    obtain ⟨p, hp⟩ : ∃ p, k = p + 1 := ⟨k - 1, by omega⟩
    subst hp
    obtain ⟨ad1, had1, _, hck⟩ := HT.out.at_ (k := p + 1) hlt
    injection had1 with had1; subst had1
    obtain ⟨ad2, had2', _, hcp⟩ := HT.out.at_ (k := p) (by omega)
    injection had2' with had2'; subst had2'
    have hck2 := (hb.cell (p := ad.add (p + 1)) (by rw [block_of_add]; omega)).trans hck
    have hcp2 := (hb.cell (p := ad.add p) (by rw [block_of_add]; omega)).trans hcp
    rw [show ad.add (p + 1) = ⟨ad.block, ad.off + (p + 1), none⟩ from by simp [Addr.add]] at hck2
    clear hck hcp
    have d0 := fun y : Past wr => Past.cell b1 y
    have d1 := fun y : Past wr => Past.cell hck2 y
    have d2 := fun y : Past wr => Past.cell hcp2 y
    have hpi : ((p : Int) + 1 - 1) = (p : Int) := by omega
    by_cases ha : lv xs (p + 1) ≤ lv xs p
    rotate_left
    · have Q := Lib.hid (show tableB first xs = false from table_no fun T => ha (T.anti p))
      have hd : decide (lv xs p < lv xs (p + 1)) = true := by simp; omega
      go_wp2
      refine wp_region_past (by kernel_rfl) (by kernel_rfl) ?_
      repeat (go_big_quiet_step (fail))
      refine wpQuiet_nil ?_
      rintro _ ⟨y, rfl⟩
      go_wp2
      go_ret
      exact ⟨by rw [Q.out]; rfl, hbb.trans (y.2.mono hbb.size)⟩
    have hd : decide (lv xs p < lv xs (p + 1)) = false := by simp; omega
    by_cases hb1 : p + 1 < m
    · have he : decide (p + 1 < m) = true := by simp; omega
      have he2 : decide ((p : Int) + 1 < (m : Int)) = true := by simp; omega
      by_cases hc : 1 ≤ lv xs (p + 1)
      · have hf2 : decide (lv xs (p + 1) < 1) = false := by simp; omega
        go_wp2
        refine wp_region_past (by kernel_rfl) (by kernel_rfl) ?_
        repeat (go_big_quiet_step (fail))
        refine wpQuiet_nil ?_
        rintro _ ⟨y, rfl⟩
        go_wp2
        go_roundw
        case rel => exact ⟨p + 2, by omega, by omega, by go_num, Lib.hid (fun i h h' => by
          by_cases e : i = p + 1
          · subst e; exact ⟨ha, fun _ => hc⟩
          · exact HA.out i h (by omega)), hb.trans (y.2.mono (by have := hb.size; simp at this; omega))⟩
        case measure => simp [intOf]; omega
      · have Q := Lib.hid (show tableB first xs = false from table_no fun T => hc (T.pos (p + 1) (by have := HL.out; have := HM.out; omega)))
        have hf2 : decide (lv xs (p + 1) < 1) = true := by simp; omega
        go_wp2
        refine wp_region_past (by kernel_rfl) (by kernel_rfl) ?_
        repeat (go_big_quiet_step (fail))
        refine wpQuiet_nil ?_
        rintro _ ⟨y, rfl⟩
        go_wp2
        go_ret
        exact ⟨by rw [Q.out]; rfl, hbb.trans (y.2.mono hbb.size)⟩
    · have he : decide (p + 1 < m) = false := by simp; omega
      have he2 : decide ((p : Int) + 1 < (m : Int)) = false := by simp; omega
      go_wp2
      refine wp_region_past (by kernel_rfl) (by kernel_rfl) ?_
      repeat (go_big_quiet_step (fail))
      refine wpQuiet_nil ?_
      rintro _ ⟨y, rfl⟩
      go_wp2
      go_roundw
      case rel => exact ⟨p + 2, by omega, by omega, by go_num, Lib.hid (fun i h h' => by
          by_cases e : i = p + 1
          · subst e; exact ⟨ha, fun h9 => by have := HM.out; omega⟩
          · exact HA.out i h (by omega)), hb.trans (y.2.mono (by have := hb.size; simp at this; omega))⟩
      case measure => simp [intOf]; omega
end Go.Proofs.YtbjdbpdgacfcpaaGreat
end

/- Contracts of functions of the library, laid at this program by the kit. -/
section
namespace Go.Proofs
open Go.Shelf
def Tryz.lays134_ren : Go.Shelf.Ren := ⟨fun | 134 => 198 | 129 => 203 | n => n, fun | 53 => 61 | 3 => 3 | 4 => 4 | 46 => 121 | 5 => 5 | 9 => 9 | n => n, fun | n => n⟩
theorem Tryz.lays134 : Go.Proofs.Lays.n134 Tryz.prog Tryz.lays134_ren := {
  mixed := by kernel_rfl
  f129 := Tryz.func203.trans (congrArg some (by kernel_rfl))
  f134 := Tryz.func198.trans (congrArg some (by kernel_rfl))
  t3 := Tryz.underlying3
  a3 := Tryz.isAgg3
  z3 := Tryz.sizeOf3
  v3 := Tryz.zeroValue3
  t4 := Tryz.underlying4
  a4 := Tryz.isAgg4
  z4 := Tryz.sizeOf4
  v4 := Tryz.zeroValue4
  t5 := Tryz.underlying5
  a5 := Tryz.isAgg5
  z5 := Tryz.sizeOf5
  v5 := Tryz.zeroValue5
  t9 := Tryz.underlying9
  a9 := Tryz.isAgg9
  z9 := Tryz.sizeOf9
  v9 := Tryz.zeroValue9
  t46 := Tryz.underlying121
  a46 := Tryz.isAgg121
  z46 := Tryz.sizeOf121
  v46 := Tryz.zeroValue121
  t53 := Tryz.underlying61
  a53 := Tryz.isAgg61
  z53 := Tryz.sizeOf61
  v53 := Tryz.zeroValue61 }
/-- bits.LeadingZeros64: "LeadingZeros64 returns the number of leading zero bits in x; the result is 64 for x == 0.": IT RETURNS '64 - Lib.bitLen x'; the world is as it was. ITS CALLEE bits.Len64 IS MET BY ITS OWN CONTRACT OFF THE SHELF (lay that first): entered in place it sends the kernel out of memory. (LAID: no walk: one application.) -/
theorem Tryz.bits_LeadingZeros64 (x : Int) (w : World) (h0 : 0 ≤ x) (h1 : x ≤ 18446744073709551615) :
    Calls Tryz.prog 198 #[.int .u64 x] w fun e w' => e = .returned (.int .i64 (64 - (Lib.bitLen x.toNat : Int))) ∧ w' = w := Any.bits_LeadingZeros64 Tryz.lays134 x w h0 h1
def Tryz.lays264_ren : Go.Shelf.Ren := ⟨fun | 264 => 191 | n => n, fun | 53 => 61 | 46 => 121 | n => n, fun | n => n⟩
theorem Tryz.lays264 : Go.Proofs.Lays.n264 Tryz.prog Tryz.lays264_ren := {
  mixed := by kernel_rfl
  f264 := Tryz.func191.trans (congrArg some (by kernel_rfl))
  t46 := Tryz.underlying121
  a46 := Tryz.isAgg121
  z46 := Tryz.sizeOf121
  v46 := Tryz.zeroValue121
  t53 := Tryz.underlying61
  a53 := Tryz.isAgg61
  z53 := Tryz.sizeOf61
  v53 := Tryz.zeroValue61 }
open Go.RowKit Go.Lib in
theorem Tryz.bits_Mul64 (x y : Nat) (hx : x < 18446744073709551616) (hy : y < 18446744073709551616) (w : World) :
    Calls Tryz.prog 191 #[.int .u64 x, .int .u64 y] w fun e w' => e = .returned (.tuple #[.int .u64 ((x * y / 18446744073709551616 : Nat) : Int), .int .u64 ((x * y % 18446744073709551616 : Nat) : Int)]) ∧ w' = w := Any.bits_Mul64 Tryz.lays264 x y hx hy w
end Go.Proofs
end

/- The arithmetic of a long division of two words by one: plain facts on numbers. No condition. -/
section
namespace Go.Proofs.YtbjdbpdgacfcpaaGreat
/-! ### a long division by two digits: one digit -/
theorem mul_le_left {a b c : Int} (h : a ≤ b) (hc : 0 ≤ c) : a * c ≤ b * c := Int.mul_le_mul_of_nonneg_right h hc
/-- the digit is too great -/
theorem digit_great {u d y1 y0 q r : Int} (h1 : q * y1 + r = u) (ht : 4294967296 ≤ q ∨ 4294967296 * r + d < q * y0) (hu : u < y1 * 4294967296 + y0) (hd : 0 ≤ d ∧ d < 4294967296) (hy1 : 0 ≤ y1) (hy0 : 0 ≤ y0) :
    4294967296 * u + d < q * y1 * 4294967296 + q * y0 := by
  rcases ht with ht | ht
  · have e1 := mul_le_left ht hy1
    have e0 := mul_le_left ht hy0
    omega
  · omega
/-- the digit is not too great -/
theorem digit_fit {u d y1 y0 q r : Int} (h1 : q * y1 + r = u) (ht : ¬ (4294967296 * r + d < q * y0)) : q * y1 * 4294967296 + q * y0 ≤ 4294967296 * u + d := by omega
theorem digit_break {u d y1 y0 q r : Int} (h1 : q * y1 + r = u) (hr : 4294967296 ≤ r) (hu : u < y1 * 4294967296 + y0) (hd : 0 ≤ d) (hy1 : 1 ≤ y1) (hy0 : 0 ≤ y0 ∧ y0 < 4294967296) : q * y1 * 4294967296 + q * y0 ≤ 4294967296 * u + d := by
  have hq : q < 4294967296 := by
    rcases Int.lt_or_le q 4294967296 with h | h
    · exact h
    · have := mul_le_left h (by omega : 0 ≤ y1)
      omega
  have := mul_le_left (show q ≤ 4294967296 by omega) hy0.1
  omega
theorem digit_down {y1 q r u : Int} (h1 : q * y1 + r = u) : (q - 1) * y1 + (r + y1) = u := by rw [Int.sub_mul]; omega
theorem digit_next {u d y1 y0 q : Int} (h : 4294967296 * u + d < q * y1 * 4294967296 + q * y0) : 4294967296 * u + d < (q - 1) * y1 * 4294967296 + (q - 1) * y0 + (y1 * 4294967296 + y0) := by
  rw [Int.sub_mul q 1 y1, Int.sub_mul q 1 y0]; omega
theorem digit_pos {u d y1 y0 q : Int} (h : 4294967296 * u + d < q * y1 * 4294967296 + q * y0) (hu : 0 ≤ u) (hd : 0 ≤ d) (hy1 : 0 ≤ y1) (hy0 : 0 ≤ y0) : 1 ≤ q := by
  rcases Int.lt_or_le q 1 with h1 | h1
  · have e1 := mul_le_left (show q ≤ 0 by omega) hy1
    have e0 := mul_le_left (show q ≤ 0 by omega) hy0
    omega
  · exact h1
theorem digit_lt {u d y1 y0 q : Int} (h : q * y1 * 4294967296 + q * y0 ≤ 4294967296 * u + d) (hu : u < y1 * 4294967296 + y0) (hd : d < 4294967296) (hy1 : 0 ≤ y1) (hy0 : 0 ≤ y0) : q < 4294967296 := by
  rcases Int.lt_or_le q 4294967296 with h1 | h1
  · exact h1
  · have e1 := mul_le_left h1 hy1
    have e0 := mul_le_left h1 hy0
    omega
/-- the first guess -/
theorem digit_first {u d y1 y0 : Int} (hy1 : 1 ≤ y1) (hy0 : 0 ≤ y0) (hu : 0 ≤ u) (hd : d < 4294967296) :
    u / y1 * y1 + (u - u / y1 * y1) = u ∧ 0 ≤ u - u / y1 * y1 ∧ u - u / y1 * y1 < y1 ∧ 0 ≤ u / y1 ∧
    4294967296 * u + d < u / y1 * y1 * 4294967296 + u / y1 * y0 + (y1 * 4294967296 + y0) := by
  have e := Int.mul_ediv_add_emod u y1
  rw [Int.mul_comm] at e
  have h1 := Int.emod_nonneg u (by omega : y1 ≠ 0)
  have h2 := Int.emod_lt_of_pos u (by omega : 0 < y1)
  have h3 := Int.ediv_nonneg hu (by omega : 0 ≤ y1)
  have h4 := Int.mul_nonneg h3 hy0
  omega
theorem wrap_rest {a b c v : Int} (h : v = a + b - c) (h0 : 0 ≤ v ∧ v < 18446744073709551616) : IntKind.u64.wrap (IntKind.u64.wrap (IntKind.u64.wrap a + b) - IntKind.u64.wrap c) = v := by
  simp only [IntKind.wrap_u64]; omega
/-- the whole division: n * p = u * 2^64 + m, digits q1, q0, rest r -/
theorem div_whole {n y p u m q1 q0 v r : Int} (hp : 1 ≤ p) (hn : n * p = u * 18446744073709551616 + m) (h1 : u * 4294967296 + m / 4294967296 = q1 * (y * p) + v) (h0 : v * 4294967296 + m % 4294967296 = q0 * (y * p) + r) (hr : 0 ≤ r ∧ r < y * p) (hy : 1 ≤ y) :
    q1 * 4294967296 + q0 = n / y ∧ r / p = n % y := by
  have e : n * p = (q1 * 4294967296 + q0) * (y * p) + r := by
    have hm := Int.mul_ediv_add_emod m 4294967296
    rw [Int.add_mul, Int.mul_right_comm q1]
    omega
  have e2 : r = (n - (q1 * 4294967296 + q0) * y) * p := by
    rw [Int.sub_mul, Int.mul_assoc]; omega
  have h3 : r / p = n - (q1 * 4294967296 + q0) * y := by rw [e2, Int.mul_ediv_cancel _ (by omega)]
  generalize hQ : q1 * 4294967296 + q0 = Q at *
  have h5 : 0 ≤ n - Q * y := by rw [← h3]; exact Int.ediv_nonneg hr.1 (by omega)
  have h6 : n - Q * y < y := by
    rw [← h3]; exact Int.ediv_lt_of_lt_mul (by omega) hr.2
  have h7 : n / y = Q := by
    have h8 : n = y * Q + (n - Q * y) := by rw [Int.mul_comm y]; omega
    rw [h8, Int.add_comm, Int.add_mul_ediv_left _ _ (by omega), Int.ediv_eq_zero_of_lt h5 h6]; omega
  refine ⟨h7.symm, ?_⟩
  have h9 := Int.mul_ediv_add_emod n y
  rw [h7] at h9
  rw [h3, Int.mul_comm Q]; omega
theorem norm_facts {y : Nat} (h1 : 1 ≤ y) (h2 : y < 18446744073709551616) : ∃ s : Nat, s = 64 - Lib.bitLen y ∧ s ≤ 63 ∧ Lib.bitLen y ≤ 64 ∧ 9223372036854775808 ≤ y * 2 ^ s ∧ y * 2 ^ s < 18446744073709551616 := by
  obtain ⟨a, b, c⟩ := Lib.bitLenAux_bounds 64 y h2 (by omega)
  have hL : Lib.bitLen y ≤ 64 := Lib.bitLen_le y 64 (Nat.le_refl _) h2
  have hu : Lib.bitLenAux 64 y = Lib.bitLen y := rfl
  rw [hu] at a b c
  refine ⟨64 - Lib.bitLen y, rfl, by omega, hL, ?_, ?_⟩
  · have : 2 ^ (Lib.bitLen y - 1) * 2 ^ (64 - Lib.bitLen y) ≤ y * 2 ^ (64 - Lib.bitLen y) := Nat.mul_le_mul_right _ b
    rw [← Nat.pow_add, show Lib.bitLen y - 1 + (64 - Lib.bitLen y) = 63 by omega] at this
    exact this
  · have : y * 2 ^ (64 - Lib.bitLen y) < 2 ^ Lib.bitLen y * 2 ^ (64 - Lib.bitLen y) := Nat.mul_lt_mul_of_pos_right c (Nat.two_pow_pos _)
    rw [← Nat.pow_add, show Lib.bitLen y + (64 - Lib.bitLen y) = 64 by omega] at this
    exact this
theorem high_or {hi lo s : Nat} (hs : s ≤ 63) (hlo : lo < 18446744073709551616) : (hi * 2 ^ s) ||| (lo / 2 ^ (64 - s)) = hi * 2 ^ s + lo / 2 ^ (64 - s) ∧ lo / 2 ^ (64 - s) < 18446744073709551616 := by
  have h : lo / 2 ^ (64 - s) < 2 ^ s := by
    apply Nat.div_lt_of_lt_mul
    rw [← Nat.pow_add, show 64 - s + s = 64 by omega]; exact hlo
  refine ⟨?_, by have := Nat.div_le_self lo (2 ^ (64 - s)); omega⟩
  have := Nat.two_pow_add_eq_or_of_lt h hi
  rw [Nat.mul_comm (2 ^ s) hi] at this
  exact this.symm
/-- the shifted dividend -/
theorem shift_whole {hi lo s : Nat} (hs : s ≤ 63) : (hi * 18446744073709551616 + lo) * 2 ^ s = (hi * 2 ^ s + lo / 2 ^ (64 - s)) * 18446744073709551616 + lo * 2 ^ s % 18446744073709551616 := by
  have e : lo * 2 ^ s / 18446744073709551616 = lo / 2 ^ (64 - s) := by
    have : (18446744073709551616 : Nat) = 2 ^ (64 - s) * 2 ^ s := by rw [← Nat.pow_add, show 64 - s + s = 64 by omega]
    rw [this, Nat.mul_div_mul_right _ _ (Nat.two_pow_pos _)]
  have e2 := Nat.div_add_mod (lo * 2 ^ s) 18446744073709551616
  rw [e] at e2
  rw [Nat.add_mul, Nat.add_mul, Nat.mul_right_comm]
  omega
theorem high_lt {hi lo y s : Nat} (hs : s ≤ 63) (h : hi < y) (hlo : lo < 18446744073709551616) : hi * 2 ^ s + lo / 2 ^ (64 - s) < y * 2 ^ s := by
  have h1 : lo / 2 ^ (64 - s) < 2 ^ s := by
    apply Nat.div_lt_of_lt_mul
    rw [← Nat.pow_add, show 64 - s + s = 64 by omega]; exact hlo
  have h2 : (hi + 1) * 2 ^ s ≤ y * 2 ^ s := Nat.mul_le_mul_right _ h
  rw [Nat.add_mul] at h2
  omega
end Go.Proofs.YtbjdbpdgacfcpaaGreat
end
