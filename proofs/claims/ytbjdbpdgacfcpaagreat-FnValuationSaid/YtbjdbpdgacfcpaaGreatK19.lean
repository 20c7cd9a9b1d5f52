/- Parts of a proof, one after another: Val3, Kind, ValQ. No condition. -/
import Derived.Test.YtbjdbpdgacfcpaaGreatK13
import Derived.Test.YtbjdbpdgacfcpaaGreatK17
import Derived.Test.YtbjdbpdgacfcpaaGreatK18
/- Maturing sums (printed by val.py). -/
section
namespace Go.Proofs.YtbjdbpdgacfcpaaGreat
open Go.RowKit Go.BigFrame

set_option maxRecDepth 20000 in
set_option maxHeartbeats 8000000 in
theorem impl_MaturingSums_any (b : Bas) (A : Option Addr) (n cap : Nat) (H : Option Addr) (m hcap : Nat) (xs : List Holding) (w : World) (hB : BasT w A n cap b) (hl : xs.length = m) (hm : m ≤ 1048576) (hX : Rd w w.heap.size H 7 (holdingRows xs)) (hf : ∀ x ∈ xs, x.fits) :
    Calls Tryz.prog 44 #[.agg #[.int .i64 b.first, .slice A n cap, .int .i64 b.rate], .slice H m hcap] w fun e w' => e = .returned (.tuple #[.int .i64 (matsP b xs).1, .int .i64 (matsP b xs).2]) ∧ Below w.heap.size w w' := by
  have HF := Lib.hid hf; clear hf
  have HL := Lib.hid hl; clear hl
  have HB := Lib.hid (Below.refl w.heap.size w)
  have HH := Lib.hid ((Held.nil w).cons hX); clear hX
  have HT := Lib.hid hB; clear hB
  obtain ⟨hb, hr0⟩ := box1 (w := w) (tx := 28) (X := [.int .i64 b.first, .slice A n cap, .int .i64 b.rate])
  replace HB := Lib.hid (below_all HB.out hb)
  replace HT := Lib.hid (HT.out.past hb)
  replace HH := Lib.hid ((HH.out.past hb).cons hr0)
  clear hb hr0
  cases hp : portB b xs
  · skip
    have Q := Lib.hid (show matsP b xs = (0, 1) by simp [matsP, hp])
    go_enter Tryz.func44, Tryz.ntmps44
    have HL_bx := Lib.hid (Rd.box (HH.out.get 0 rfl))
    go_wp2_with (refine wpList_load_agg rfl 28 _ rfl ⟨w.heap.size, 0, none⟩ rfl [.int .i64 b.first, .slice A n cap, .int .i64 b.rate] HL_bx.out _ Tryz.underlying28 rfl Bas.size ?_)
    clear HL_bx
    generalize (w.alloc (.cells #[.int .i64 b.first, .slice A n cap, .int .i64 b.rate] 28)) = v0 at HB HH HT ⊢
    generalize w.heap.size = g0_0 at HH ⊢
    refine (impl_IsPortfolio_any b A n cap H m hcap xs _ HT.out HL.out hm (HH.out.get 1 rfl) HF.out).mono ?_
    rw [hp]
    rintro e w1 ⟨rfl, hb⟩
    replace HB := Lib.hid (below_all HB.out hb)
    replace HT := Lib.hid (HT.out.past hb)
    replace HH := Lib.hid (HH.out.past hb)
    clear hb
    go_wp2
    go_ret2
    exact ⟨by rw [Q.out]; rfl, HB.out⟩
  · skip
    have Q := Lib.hid (show matsP b xs = ((matL b xs).sum, 0) by simp [matsP, hp])
    obtain ⟨h30, hh⟩ := port_hold hp
    have HS := Lib.hid (matL_sums h30 hh)
    have HHO := Lib.hid hh; clear hh
    have hm30 : m ≤ 30 := by have := HL.out; omega
    clear h30
    go_enter Tryz.func44, Tryz.ntmps44
    have HL_bx := Lib.hid (Rd.box (HH.out.get 0 rfl))
    go_wp2_with (refine wpList_load_agg rfl 28 _ rfl ⟨w.heap.size, 0, none⟩ rfl [.int .i64 b.first, .slice A n cap, .int .i64 b.rate] HL_bx.out _ Tryz.underlying28 rfl Bas.size ?_)
    clear HL_bx
    generalize (w.alloc (.cells #[.int .i64 b.first, .slice A n cap, .int .i64 b.rate] 28)) = v0 at HB HH HT ⊢
    generalize w.heap.size = g0_0 at HH ⊢
    refine (impl_IsPortfolio_any b A n cap H m hcap xs _ HT.out HL.out hm (HH.out.get 1 rfl) HF.out).mono ?_
    rw [hp]
    rintro e w1 ⟨rfl, hb⟩
    replace HB := Lib.hid (below_all HB.out hb)
    replace HT := Lib.hid (HT.out.past hb)
    replace HH := Lib.hid (HH.out.past hb)
    clear hb
    have HH1 := HH
    have HT1 := HT
    have HB1 := HB
    go_wp2
    go_loopw [6, 15] (fun s i wr => ∃ k : Nat, k ≤ m ∧ i = .int .i64 k ∧ s = .int .i64 ((matL b xs).take k).sum ∧ Below w1.heap.size w1 wr) (fun _ i _ => m - (intOf i).toNat)
    case atStart => exact ⟨0, by omega, rfl, rfl, Below.refl _ _⟩
    case round =>
      clear HB HH HT
      obtain ⟨k, hk, rfl, rfl, hb⟩ := hrel
      have HW := Lib.hid hb
      have HH := Lib.hid (HH1.out.past hb)
      have HT := Lib.hid (HT1.out.past hb)
      have HB := Lib.hid (HB1.out.trans (hb.mono HB1.out.size))
      clear hb
      by_cases hlt : k < m
      · obtain ⟨x, hx⟩ := get_of_lt (xs := xs) (k := k) (by rw [HL.out]; exact hlt)
        obtain ⟨ad, rfl, had, _, hc⟩ := ((HH.out.get 1 rfl)).at' (holdingRows_get hx)
        have HE := Lib.hid (sum_snoc (matL_get (b := b) hx))
        have Hx := Lib.hid (HHO.out x (List.mem_of_getElem? hx)); clear hx
        have Hc := Lib.hid hc; clear hc
        have hbd := HS.out (k + 1)
        rw [HE.out] at hbd
        obtain ⟨b1, b2⟩ := hbd
        have hbs := HS.out k
        obtain ⟨b3, b4⟩ := hbs
        have CK := Lib.hid (claim_ok Hx.out)
        have c1 := CK.out.cs0; have c2 := CK.out.cs1
        unfold csP at c1 c2
        have hki : (k : Int) < (m : Int) := by omega
        have hk63 : (k : Int) < 1048576 := by omega
        obtain ⟨hb, hr0⟩ := box1 (w := wr) (tx := 90) (X := [.int .i64 x.kind, .int .i64 x.age, .int .i64 x.years, .int .i64 x.sum, .int .i64 x.load, .int .i64 x.year, .int .i64 x.count])
        replace HB := Lib.hid (below_all HB.out hb)
        replace HT := Lib.hid (HT.out.past hb)
        replace HH := Lib.hid ((HH.out.past hb).cons hr0)
        clear hb hr0
        have hba : Below wr.heap.size wr (wr.alloc (.cells #[.int .i64 x.kind, .int .i64 x.age, .int .i64 x.years, .int .i64 x.sum, .int .i64 x.load, .int .i64 x.year, .int .i64 x.count] 90)) := (Below.refl _ wr).alloc (Nat.le_refl _) _
        replace HW := Lib.hid (HW.out.trans (hba.mono HW.out.size)); clear hba
        have hq : 0 ≤ x.kind ∧ x.kind ≤ 3 := ⟨(pol_ok (hold_pol Hx.out)).kind0, (pol_ok (hold_pol Hx.out)).kind1⟩
        obtain ⟨k0, k1⟩ := hq
        by_cases hmb : matB b x = true
        · skip
          have hv : matV b x = x.count * x.sum := if_pos hmb
          rw [hv] at HE b1 b2
          clear hv
          go_upto_region 7 with (refine wpList_load_agg rfl 90 _ rfl (ad.add (k * 7)) rfl [.int .i64 x.kind, .int .i64 x.age, .int .i64 x.years, .int .i64 x.sum, .int .i64 x.load, .int .i64 x.year, .int .i64 x.count] Hc.out _ Tryz.underlying90 rfl Holding.size ?_)
          generalize (wr.alloc (.cells #[.int .i64 x.kind, .int .i64 x.age, .int .i64 x.years, .int .i64 x.sum, .int .i64 x.load, .int .i64 x.year, .int .i64 x.count] 90)) = v1 at HB HH HT HW ⊢
          generalize wr.heap.size = g1_0 at HH ⊢
          have HL_hx := Lib.hid (Rd.box (HH.out.get 0 rfl))
          have HL_bx := Lib.hid (Rd.box (HH.out.get 1 rfl))
          go_wp2_with (first | (refine wpList_load_agg rfl 90 _ rfl ⟨g1_0, 0, none⟩ rfl [.int .i64 x.kind, .int .i64 x.age, .int .i64 x.years, .int .i64 x.sum, .int .i64 x.load, .int .i64 x.year, .int .i64 x.count] HL_hx.out _ Tryz.underlying90 rfl Holding.size ?_) | (refine wpList_load_agg rfl 28 _ rfl ⟨g0_0, 0, none⟩ rfl [.int .i64 b.first, .slice A n cap, .int .i64 b.rate] HL_bx.out _ Tryz.underlying28 rfl Bas.size ?_))
          clear HL_hx HL_bx
          refine (impl_Holding_matures_any b A n cap x _ HT.out Hx.out).mono ?_
          rw [hmb]
          rintro e w2 ⟨rfl, hb⟩
          replace HW := Lib.hid (HW.out.trans (hb.mono HW.out.size))
          replace HB := Lib.hid (below_all HB.out hb)
          replace HT := Lib.hid (HT.out.past hb)
          replace HH := Lib.hid (HH.out.past hb)
          clear hb
          have p0 : w2.cell? ⟨g1_0, 0, none⟩ = some (.int .i64 x.kind) := Rd.bcell (HH.out.get 0 rfl) 0 rfl
          have p1 : w2.cell? ⟨g1_0, 1, none⟩ = some (.int .i64 x.age) := Rd.bcell (HH.out.get 0 rfl) 1 rfl
          have p2 : w2.cell? ⟨g1_0, 2, none⟩ = some (.int .i64 x.years) := Rd.bcell (HH.out.get 0 rfl) 2 rfl
          have p3 : w2.cell? ⟨g1_0, 3, none⟩ = some (.int .i64 x.sum) := Rd.bcell (HH.out.get 0 rfl) 3 rfl
          have p4 : w2.cell? ⟨g1_0, 4, none⟩ = some (.int .i64 x.load) := Rd.bcell (HH.out.get 0 rfl) 4 rfl
          have p5 : w2.cell? ⟨g1_0, 5, none⟩ = some (.int .i64 x.year) := Rd.bcell (HH.out.get 0 rfl) 5 rfl
          have p6 : w2.cell? ⟨g1_0, 6, none⟩ = some (.int .i64 x.count) := Rd.bcell (HH.out.get 0 rfl) 6 rfl
          clear hmb
          go_wp2
          go_roundw
          case rel => exact ⟨k + 1, by omega, by go_num, by rw [HE.out]; (first | done | rw [Int.add_zero]), HW.out⟩
          case measure => simp [intOf]; omega
        · skip
          have hmc : matB b x = false := by simpa using hmb
          have hv : matV b x = 0 := if_neg hmb
          rw [hv] at HE
          clear hv hmb
          go_upto_region 7 with (refine wpList_load_agg rfl 90 _ rfl (ad.add (k * 7)) rfl [.int .i64 x.kind, .int .i64 x.age, .int .i64 x.years, .int .i64 x.sum, .int .i64 x.load, .int .i64 x.year, .int .i64 x.count] Hc.out _ Tryz.underlying90 rfl Holding.size ?_)
          generalize (wr.alloc (.cells #[.int .i64 x.kind, .int .i64 x.age, .int .i64 x.years, .int .i64 x.sum, .int .i64 x.load, .int .i64 x.year, .int .i64 x.count] 90)) = v1 at HB HH HT HW ⊢
          generalize wr.heap.size = g1_0 at HH ⊢
          have HL_hx := Lib.hid (Rd.box (HH.out.get 0 rfl))
          have HL_bx := Lib.hid (Rd.box (HH.out.get 1 rfl))
          go_wp2_with (first | (refine wpList_load_agg rfl 90 _ rfl ⟨g1_0, 0, none⟩ rfl [.int .i64 x.kind, .int .i64 x.age, .int .i64 x.years, .int .i64 x.sum, .int .i64 x.load, .int .i64 x.year, .int .i64 x.count] HL_hx.out _ Tryz.underlying90 rfl Holding.size ?_) | (refine wpList_load_agg rfl 28 _ rfl ⟨g0_0, 0, none⟩ rfl [.int .i64 b.first, .slice A n cap, .int .i64 b.rate] HL_bx.out _ Tryz.underlying28 rfl Bas.size ?_))
          clear HL_hx HL_bx
          refine (impl_Holding_matures_any b A n cap x _ HT.out Hx.out).mono ?_
          rw [hmc]
          rintro e w2 ⟨rfl, hb⟩
          replace HW := Lib.hid (HW.out.trans (hb.mono HW.out.size))
          replace HB := Lib.hid (below_all HB.out hb)
          replace HT := Lib.hid (HT.out.past hb)
          replace HH := Lib.hid (HH.out.past hb)
          clear hb
          go_wp2
          go_roundw
          case rel => exact ⟨k + 1, by omega, by go_num, by rw [HE.out]; (first | done | rw [Int.add_zero]), HW.out⟩
          case measure => simp [intOf]; omega
      · have hkn : k = m := by omega
        subst hkn
        go_wp2
        go_ret2
        exact ⟨by rw [Q.out, take_all (by rw [matL, List.length_map]; exact HL.out)]; rfl, HB.out⟩
set_option maxRecDepth 20000 in
set_option maxHeartbeats 8000000 in
theorem spec_MaturingSums_any (b : Bas) (A : Option Addr) (n cap : Nat) (H : Option Addr) (m hcap : Nat) (xs : List Holding) (w : World) (hB : BasT w A n cap b) (hl : xs.length = m) (hm : m ≤ 1048576) (hX : Rd w w.heap.size H 7 (holdingRows xs)) (hf : ∀ x ∈ xs, x.fits) :
    Calls Tryz.prog 45 #[.agg #[.int .i64 b.first, .slice A n cap, .int .i64 b.rate], .slice H m hcap] w fun e w' => e = .returned (.tuple #[.int .i64 (matsP b xs).1, .int .i64 (matsP b xs).2]) ∧ Below w.heap.size w w' := by
  have HF := Lib.hid hf; clear hf
  have HL := Lib.hid hl; clear hl
  have HB := Lib.hid (Below.refl w.heap.size w)
  have HH := Lib.hid ((Held.nil w).cons hX); clear hX
  have HT := Lib.hid hB; clear hB
  obtain ⟨hb, hr0⟩ := box1 (w := w) (tx := 28) (X := [.int .i64 b.first, .slice A n cap, .int .i64 b.rate])
  replace HB := Lib.hid (below_all HB.out hb)
  replace HT := Lib.hid (HT.out.past hb)
  replace HH := Lib.hid ((HH.out.past hb).cons hr0)
  clear hb hr0
  cases hp : portB b xs
  · skip
    have Q := Lib.hid (show matsP b xs = (0, 1) by simp [matsP, hp])
    go_enter Tryz.func45, Tryz.ntmps45
    have HL_bx := Lib.hid (Rd.box (HH.out.get 0 rfl))
    go_wp2_with (refine wpList_load_agg rfl 28 _ rfl ⟨w.heap.size, 0, none⟩ rfl [.int .i64 b.first, .slice A n cap, .int .i64 b.rate] HL_bx.out _ Tryz.underlying28 rfl Bas.size ?_)
    clear HL_bx
    generalize (w.alloc (.cells #[.int .i64 b.first, .slice A n cap, .int .i64 b.rate] 28)) = v0 at HB HH HT ⊢
    generalize w.heap.size = g0_0 at HH ⊢
    refine (spec_IsPortfolio_any b A n cap H m hcap xs _ HT.out HL.out hm (HH.out.get 1 rfl) HF.out).mono ?_
    rw [hp]
    rintro e w1 ⟨rfl, hb⟩
    replace HB := Lib.hid (below_all HB.out hb)
    replace HT := Lib.hid (HT.out.past hb)
    replace HH := Lib.hid (HH.out.past hb)
    clear hb
    go_wp2
    go_ret2
    exact ⟨by rw [Q.out]; rfl, HB.out⟩
  · skip
    have Q := Lib.hid (show matsP b xs = ((matL b xs).sum, 0) by simp [matsP, hp])
    obtain ⟨h30, hh⟩ := port_hold hp
    have HS := Lib.hid (matL_sums h30 hh)
    have HHO := Lib.hid hh; clear hh
    have hm30 : m ≤ 30 := by have := HL.out; omega
    clear h30
    go_enter Tryz.func45, Tryz.ntmps45
    have HL_bx := Lib.hid (Rd.box (HH.out.get 0 rfl))
    go_wp2_with (refine wpList_load_agg rfl 28 _ rfl ⟨w.heap.size, 0, none⟩ rfl [.int .i64 b.first, .slice A n cap, .int .i64 b.rate] HL_bx.out _ Tryz.underlying28 rfl Bas.size ?_)
    clear HL_bx
    generalize (w.alloc (.cells #[.int .i64 b.first, .slice A n cap, .int .i64 b.rate] 28)) = v0 at HB HH HT ⊢
    generalize w.heap.size = g0_0 at HH ⊢
    refine (spec_IsPortfolio_any b A n cap H m hcap xs _ HT.out HL.out hm (HH.out.get 1 rfl) HF.out).mono ?_
    rw [hp]
    rintro e w1 ⟨rfl, hb⟩
    replace HB := Lib.hid (below_all HB.out hb)
    replace HT := Lib.hid (HT.out.past hb)
    replace HH := Lib.hid (HH.out.past hb)
    clear hb
    have HH1 := HH
    have HT1 := HT
    have HB1 := HB
    go_wp2
    go_loopw [6, 7] (fun s i wr => ∃ k : Nat, k ≤ m ∧ i = .int .i64 k ∧ s = .int .i64 ((matL b xs).take k).sum ∧ Below w1.heap.size w1 wr) (fun _ i _ => m - (intOf i).toNat)
    case atStart => exact ⟨0, by omega, rfl, rfl, Below.refl _ _⟩
    case round =>
      clear HB HH HT
      obtain ⟨k, hk, rfl, rfl, hb⟩ := hrel
      have HW := Lib.hid hb
      have HH := Lib.hid (HH1.out.past hb)
      have HT := Lib.hid (HT1.out.past hb)
      have HB := Lib.hid (HB1.out.trans (hb.mono HB1.out.size))
      clear hb
      by_cases hlt : k < m
      · obtain ⟨x, hx⟩ := get_of_lt (xs := xs) (k := k) (by rw [HL.out]; exact hlt)
        obtain ⟨ad, rfl, had, _, hc⟩ := ((HH.out.get 1 rfl)).at' (holdingRows_get hx)
        have HE := Lib.hid (sum_snoc (matL_get (b := b) hx))
        have Hx := Lib.hid (HHO.out x (List.mem_of_getElem? hx)); clear hx
        have Hc := Lib.hid hc; clear hc
        have hbd := HS.out (k + 1)
        rw [HE.out] at hbd
        obtain ⟨b1, b2⟩ := hbd
        have hbs := HS.out k
        obtain ⟨b3, b4⟩ := hbs
        have CK := Lib.hid (claim_ok Hx.out)
        have c1 := CK.out.cs0; have c2 := CK.out.cs1
        unfold csP at c1 c2
        have hki : (k : Int) < (m : Int) := by omega
        have hk63 : (k : Int) < 1048576 := by omega
        obtain ⟨hb, hr0⟩ := box1 (w := wr) (tx := 90) (X := [.int .i64 x.kind, .int .i64 x.age, .int .i64 x.years, .int .i64 x.sum, .int .i64 x.load, .int .i64 x.year, .int .i64 x.count])
        replace HB := Lib.hid (below_all HB.out hb)
        replace HT := Lib.hid (HT.out.past hb)
        replace HH := Lib.hid ((HH.out.past hb).cons hr0)
        clear hb hr0
        have hba : Below wr.heap.size wr (wr.alloc (.cells #[.int .i64 x.kind, .int .i64 x.age, .int .i64 x.years, .int .i64 x.sum, .int .i64 x.load, .int .i64 x.year, .int .i64 x.count] 90)) := (Below.refl _ wr).alloc (Nat.le_refl _) _
        replace HW := Lib.hid (HW.out.trans (hba.mono HW.out.size)); clear hba
        have hq : 0 ≤ x.kind ∧ x.kind ≤ 3 := ⟨(pol_ok (hold_pol Hx.out)).kind0, (pol_ok (hold_pol Hx.out)).kind1⟩
        obtain ⟨k0, k1⟩ := hq
        by_cases hmb : matB b x = true
        · skip
          have hv : matV b x = x.count * x.sum := if_pos hmb
          rw [hv] at HE b1 b2
          clear hv
          have hmy : (x.year == durP b x.pol - 1) = true := by simp only [matB, Bool.and_eq_true, decide_eq_true_eq] at hmb; simpa using hmb.2
          have hmk : 2 ≤ x.kind := by simp only [matB, Bool.and_eq_true, decide_eq_true_eq] at hmb; exact hmb.1
          clear hmb
          go_upto_region 8 with (refine wpList_load_agg rfl 90 _ rfl (ad.add (k * 7)) rfl [.int .i64 x.kind, .int .i64 x.age, .int .i64 x.years, .int .i64 x.sum, .int .i64 x.load, .int .i64 x.year, .int .i64 x.count] Hc.out _ Tryz.underlying90 rfl Holding.size ?_)
          generalize (wr.alloc (.cells #[.int .i64 x.kind, .int .i64 x.age, .int .i64 x.years, .int .i64 x.sum, .int .i64 x.load, .int .i64 x.year, .int .i64 x.count] 90)) = v1 at HB HH HT HW ⊢
          generalize wr.heap.size = g1_0 at HH ⊢
          have HL_hx := Lib.hid (Rd.box (HH.out.get 0 rfl))
          have HL_bx := Lib.hid (Rd.box (HH.out.get 1 rfl))
          go_wp2_with (first | (refine wpList_load_agg rfl 90 _ rfl ⟨g1_0, 0, none⟩ rfl [.int .i64 x.kind, .int .i64 x.age, .int .i64 x.years, .int .i64 x.sum, .int .i64 x.load, .int .i64 x.year, .int .i64 x.count] HL_hx.out _ Tryz.underlying90 rfl Holding.size ?_) | (refine wpList_load_agg rfl 28 _ rfl ⟨g0_0, 0, none⟩ rfl [.int .i64 b.first, .slice A n cap, .int .i64 b.rate] HL_bx.out _ Tryz.underlying28 rfl Bas.size ?_))
          clear HL_hx HL_bx
          refine (spec_l17Last_any b A n cap x _ HT.out Hx.out).mono ?_
          rw [hmy]
          rintro e w2 ⟨rfl, hb⟩
          replace HW := Lib.hid (HW.out.trans (hb.mono HW.out.size))
          replace HB := Lib.hid (below_all HB.out hb)
          replace HT := Lib.hid (HT.out.past hb)
          replace HH := Lib.hid (HH.out.past hb)
          clear hb
          have p0 : w2.cell? ⟨g1_0, 0, none⟩ = some (.int .i64 x.kind) := Rd.bcell (HH.out.get 0 rfl) 0 rfl
          have p1 : w2.cell? ⟨g1_0, 1, none⟩ = some (.int .i64 x.age) := Rd.bcell (HH.out.get 0 rfl) 1 rfl
          have p2 : w2.cell? ⟨g1_0, 2, none⟩ = some (.int .i64 x.years) := Rd.bcell (HH.out.get 0 rfl) 2 rfl
          have p3 : w2.cell? ⟨g1_0, 3, none⟩ = some (.int .i64 x.sum) := Rd.bcell (HH.out.get 0 rfl) 3 rfl
          have p4 : w2.cell? ⟨g1_0, 4, none⟩ = some (.int .i64 x.load) := Rd.bcell (HH.out.get 0 rfl) 4 rfl
          have p5 : w2.cell? ⟨g1_0, 5, none⟩ = some (.int .i64 x.year) := Rd.bcell (HH.out.get 0 rfl) 5 rfl
          have p6 : w2.cell? ⟨g1_0, 6, none⟩ = some (.int .i64 x.count) := Rd.bcell (HH.out.get 0 rfl) 6 rfl
          rcases (show x.kind = 2 ∨ x.kind = 3 by omega) with hkk | hkk
          · skip
            have hka : (x.kind == 2) = true := by simp [hkk]
            have hkb : (x.kind == 3) = false := by simp [hkk]
            clear hkk
            go_wp2
            go_roundw
            case rel => exact ⟨k + 1, by omega, by go_num, by rw [HE.out]; (first | done | rw [Int.add_zero]), HW.out⟩
            case measure => simp [intOf]; omega
          · skip
            have hka : (x.kind == 2) = false := by simp [hkk]
            have hkb : (x.kind == 3) = true := by simp [hkk]
            clear hkk
            go_wp2
            go_roundw
            case rel => exact ⟨k + 1, by omega, by go_num, by rw [HE.out]; (first | done | rw [Int.add_zero]), HW.out⟩
            case measure => simp [intOf]; omega
        · skip
          have hmc : matB b x = false := by simpa using hmb
          have hv : matV b x = 0 := if_neg hmb
          rw [hv] at HE
          clear hv hmb
          cases hmy : (x.year == durP b x.pol - 1)
          · skip
            go_upto_region 8 with (refine wpList_load_agg rfl 90 _ rfl (ad.add (k * 7)) rfl [.int .i64 x.kind, .int .i64 x.age, .int .i64 x.years, .int .i64 x.sum, .int .i64 x.load, .int .i64 x.year, .int .i64 x.count] Hc.out _ Tryz.underlying90 rfl Holding.size ?_)
            generalize (wr.alloc (.cells #[.int .i64 x.kind, .int .i64 x.age, .int .i64 x.years, .int .i64 x.sum, .int .i64 x.load, .int .i64 x.year, .int .i64 x.count] 90)) = v1 at HB HH HT HW ⊢
            generalize wr.heap.size = g1_0 at HH ⊢
            have HL_hx := Lib.hid (Rd.box (HH.out.get 0 rfl))
            have HL_bx := Lib.hid (Rd.box (HH.out.get 1 rfl))
            go_wp2_with (first | (refine wpList_load_agg rfl 90 _ rfl ⟨g1_0, 0, none⟩ rfl [.int .i64 x.kind, .int .i64 x.age, .int .i64 x.years, .int .i64 x.sum, .int .i64 x.load, .int .i64 x.year, .int .i64 x.count] HL_hx.out _ Tryz.underlying90 rfl Holding.size ?_) | (refine wpList_load_agg rfl 28 _ rfl ⟨g0_0, 0, none⟩ rfl [.int .i64 b.first, .slice A n cap, .int .i64 b.rate] HL_bx.out _ Tryz.underlying28 rfl Bas.size ?_))
            clear HL_hx HL_bx
            refine (spec_l17Last_any b A n cap x _ HT.out Hx.out).mono ?_
            rw [hmy]
            rintro e w2 ⟨rfl, hb⟩
            replace HW := Lib.hid (HW.out.trans (hb.mono HW.out.size))
            replace HB := Lib.hid (below_all HB.out hb)
            replace HT := Lib.hid (HT.out.past hb)
            replace HH := Lib.hid (HH.out.past hb)
            clear hb
            go_wp2
            go_roundw
            case rel => exact ⟨k + 1, by omega, by go_num, by rw [HE.out]; (first | done | rw [Int.add_zero]), HW.out⟩
            case measure => simp [intOf]; omega
          · skip
            have hmk : ¬ 2 ≤ x.kind := fun h => by simp only [matB, Bool.and_eq_false_iff, decide_eq_false_iff_not] at hmc; rcases hmc with h1 | h1; exact h1 h; exact h1 (by simpa using hmy)
            have hka : (x.kind == 2) = false := by simp; omega
            have hkb : (x.kind == 3) = false := by simp; omega
            go_upto_region 8 with (refine wpList_load_agg rfl 90 _ rfl (ad.add (k * 7)) rfl [.int .i64 x.kind, .int .i64 x.age, .int .i64 x.years, .int .i64 x.sum, .int .i64 x.load, .int .i64 x.year, .int .i64 x.count] Hc.out _ Tryz.underlying90 rfl Holding.size ?_)
            generalize (wr.alloc (.cells #[.int .i64 x.kind, .int .i64 x.age, .int .i64 x.years, .int .i64 x.sum, .int .i64 x.load, .int .i64 x.year, .int .i64 x.count] 90)) = v1 at HB HH HT HW ⊢
            generalize wr.heap.size = g1_0 at HH ⊢
            have HL_hx := Lib.hid (Rd.box (HH.out.get 0 rfl))
            have HL_bx := Lib.hid (Rd.box (HH.out.get 1 rfl))
            go_wp2_with (first | (refine wpList_load_agg rfl 90 _ rfl ⟨g1_0, 0, none⟩ rfl [.int .i64 x.kind, .int .i64 x.age, .int .i64 x.years, .int .i64 x.sum, .int .i64 x.load, .int .i64 x.year, .int .i64 x.count] HL_hx.out _ Tryz.underlying90 rfl Holding.size ?_) | (refine wpList_load_agg rfl 28 _ rfl ⟨g0_0, 0, none⟩ rfl [.int .i64 b.first, .slice A n cap, .int .i64 b.rate] HL_bx.out _ Tryz.underlying28 rfl Bas.size ?_))
            clear HL_hx HL_bx
            refine (spec_l17Last_any b A n cap x _ HT.out Hx.out).mono ?_
            rw [hmy]
            rintro e w2 ⟨rfl, hb⟩
            replace HW := Lib.hid (HW.out.trans (hb.mono HW.out.size))
            replace HB := Lib.hid (below_all HB.out hb)
            replace HT := Lib.hid (HT.out.past hb)
            replace HH := Lib.hid (HH.out.past hb)
            clear hb
            have p0 : w2.cell? ⟨g1_0, 0, none⟩ = some (.int .i64 x.kind) := Rd.bcell (HH.out.get 0 rfl) 0 rfl
            have p1 : w2.cell? ⟨g1_0, 1, none⟩ = some (.int .i64 x.age) := Rd.bcell (HH.out.get 0 rfl) 1 rfl
            have p2 : w2.cell? ⟨g1_0, 2, none⟩ = some (.int .i64 x.years) := Rd.bcell (HH.out.get 0 rfl) 2 rfl
            have p3 : w2.cell? ⟨g1_0, 3, none⟩ = some (.int .i64 x.sum) := Rd.bcell (HH.out.get 0 rfl) 3 rfl
            have p4 : w2.cell? ⟨g1_0, 4, none⟩ = some (.int .i64 x.load) := Rd.bcell (HH.out.get 0 rfl) 4 rfl
            have p5 : w2.cell? ⟨g1_0, 5, none⟩ = some (.int .i64 x.year) := Rd.bcell (HH.out.get 0 rfl) 5 rfl
            have p6 : w2.cell? ⟨g1_0, 6, none⟩ = some (.int .i64 x.count) := Rd.bcell (HH.out.get 0 rfl) 6 rfl
            go_wp2
            go_roundw
            case rel => exact ⟨k + 1, by omega, by go_num, by rw [HE.out]; (first | done | rw [Int.add_zero]), HW.out⟩
            case measure => simp [intOf]; omega
      · have hkn : k = m := by omega
        subst hkn
        go_wp2
        go_ret2
        exact ⟨by rw [Q.out, take_all (by rw [matL, List.length_map]; exact HL.out)]; rfl, HB.out⟩
end Go.Proofs.YtbjdbpdgacfcpaaGreat
end

/- Reserves by the kind of the policies: the program's and the reference's contracts. -/
section
namespace Go.Proofs.YtbjdbpdgacfcpaaGreat
open Go.RowKit Go.BigFrame

/-- the block of the four sums after k holdings -/
def KindBlk (w : World) (G : Nat) (b : Bas) (xs : List Holding) (k : Nat) : Prop := ∃ cs : Array Value, Blk w G 2 cs ∧ cs.size = 4 ∧ ∀ j : Nat, j < 4 → cs[j]? = some (.int .i64 (kindAt b xs j k))
theorem KindBlk.past {w w' : World} {G : Nat} {b : Bas} {xs : List Holding} {k : Nat} (h : KindBlk w G b xs k) (hb : Below w.heap.size w w') : KindBlk w' G b xs k := by
  obtain ⟨cs, h1, h2⟩ := h
  exact ⟨cs, h1.below' hb, h2⟩
theorem KindBlk.cell {w : World} {G : Nat} {b : Bas} {xs : List Holding} {k : Nat} (h : KindBlk w G b xs k) {j : Int} (hj : 0 ≤ j ∧ j < 4) : w.cell? ⟨G, j.toNat, none⟩ = some (.int .i64 (kindAt b xs j k)) ∧ w.frozen? ⟨G, j.toNat, none⟩ = false := by
  obtain ⟨cs, h1, h2, h3⟩ := h
  refine ⟨?_, h1.frozen _⟩
  rw [h1.cell, h3 j.toNat (by omega), Int.toNat_of_nonneg hj.1]
theorem KindBlk.next {w : World} {G : Nat} {b : Bas} {xs : List Holding} {k : Nat} {x : Holding} (h : KindBlk w G b xs k) (hx : xs[k]? = some x) (hj : 0 ≤ x.kind ∧ x.kind < 4) :
    KindBlk (w.setCell ⟨G, x.kind.toNat, none⟩ (.int .i64 (kindAt b xs x.kind k + resV b x))) G b xs (k + 1) := by
  obtain ⟨cs, h1, h2, h3⟩ := h
  refine ⟨_, h1.set_ _ _, by simpa using h2, fun j hj4 => ?_⟩
  rw [Array.getElem?_setIfInBounds, kindAt_succ hx]
  by_cases e : x.kind.toNat = j
  · have e' : x.kind = (j : Int) := by omega
    rw [if_pos e, if_pos (by omega), kindV, if_pos e', e']
  · have e' : ¬ x.kind = (j : Int) := by omega
    rw [if_neg e, kindV, if_neg e', Int.add_zero]
    exact h3 j hj4
theorem KindBlk.zero {w : World} {b : Bas} {xs : List Holding} : KindBlk (w.alloc (.cells #[.int .i64 0, .int .i64 0, .int .i64 0, .int .i64 0] 2)) w.heap.size b xs 0 := by
  refine ⟨_, Blk.new w 2 #[.int .i64 0, .int .i64 0, .int .i64 0, .int .i64 0], rfl, fun j hj => ?_⟩
  rw [kindAt_zero]
  match j, hj with
  | 0, _ => rfl
  | 1, _ => rfl
  | 2, _ => rfl
  | 3, _ => rfl


theorem four_cells : madeCells (Value.int .i64 0).cells (4 * 1) = #[.int .i64 0, .int .i64 0, .int .i64 0, .int .i64 0] := by kernel_rfl
theorem KindBlk.res {w : World} {G B : Nat} {b : Bas} {xs : List Holding} {k : Nat} (h : KindBlk w G b xs k) (hk : xs.length = k) (hB : B ≤ G) :
    Res B w 2 1 (some ⟨G, 0, none⟩) 4 4 (intRows [kindAt b xs 0 xs.length, kindAt b xs 1 xs.length, kindAt b xs 2 xs.length, kindAt b xs 3 xs.length]) := by
  obtain ⟨cs, h1, h2, h3⟩ := h
  subst hk
  refine Filled.res (cs := cs) h1 ?_ rfl (by omega) hB (by decide) (intRows_all _)
  have e0 := h3 0 (by omega); have e1 := h3 1 (by omega); have e2 := h3 2 (by omega); have e3 := h3 3 (by omega)
  intro i r hi hr j v hv
  have hj : j = 0 := by
    have h4 := intRows_all _ r (List.mem_of_getElem? hr)
    have h5 := (List.getElem?_eq_some_iff.1 hv).1
    omega
  subst hj
  match i, hi with
  | 0, _ => simp [intRows] at hr; subst hr; simp at hv; subst hv; exact e0
  | 1, _ => simp [intRows] at hr; subst hr; simp at hv; subst hv; exact e1
  | 2, _ => simp [intRows] at hr; subst hr; simp at hv; subst hv; exact e2
  | 3, _ => simp [intRows] at hr; subst hr; simp at hv; subst hv; exact e3
theorem kind_add {b : Bas} {xs : List Holding} (hl : xs.length ≤ 30) (hh : ∀ x ∈ xs, holdB b x = true) {k : Nat} {x : Holding} (hx : xs[k]? = some x) :
    -4000000000000000000 ≤ kindAt b xs x.kind k + resV b x ∧ kindAt b xs x.kind k + resV b x ≤ 4000000000000000000 := by
  have h1 := kindAt_bound hl hh x.kind (k + 1)
  rw [kindAt_succ hx, kindV, if_pos rfl] at h1
  exact h1
theorem hold_kind4 {b : Bas} {h : Holding} (H : holdB b h = true) : 0 ≤ h.kind ∧ h.kind < 4 := by
  have := hold_kind H
  omega


set_option maxHeartbeats 4000000 in
theorem impl_ReserveByKind_any (b : Bas) (A : Option Addr) (n cap : Nat) (H : Option Addr) (m hcap : Nat) (xs : List Holding) (w : World) (hB : BasT w A n cap b) (hl : xs.length = m) (hm : m ≤ 1048576) (hX : Rd w w.heap.size H 7 (holdingRows xs)) (hf : ∀ x ∈ xs, x.fits) :
    Calls Tryz.prog 38 #[.agg #[.int .i64 b.first, .slice A n cap, .int .i64 b.rate], .slice H m hcap] w fun e w' => ∃ A' n' c', e = .returned (.tuple #[.slice A' n' c', .int .i64 (kindsP b xs).2]) ∧ Res w.heap.size w' 2 1 A' n' c' (intRows (kindsP b xs).1) ∧ Below w.heap.size w w' := by
  have hbw : Below w.heap.size w (w.alloc (.cells #[.int .i64 b.first, .slice A n cap, .int .i64 b.rate] 28)) := (Below.refl _ w).alloc (Nat.le_refl _) _
  have HB := Lib.hid (Blk.new w 28 #[.int .i64 b.first, .slice A n cap, .int .i64 b.rate])
  have HBT := Lib.hid (hB.past hbw); clear hB
  have HX := Lib.hid (hX.past hbw); clear hX
  have HL := Lib.hid hl; clear hl
  have HF := Lib.hid hf; clear hf
  have hcB0 := Lib.hid (Blk.agg (cs := [.int .i64 b.first, .slice A n cap, .int .i64 b.rate]) HB.out 0 [.int .i64 b.first, .slice A n cap, .int .i64 b.rate] rfl)
  cases hp : portB b xs
  · have Q := Lib.hid (show kindsP b xs = ([], 1) by simp [kindsP, hp])
    go_enter Tryz.func38, Tryz.ntmps38
    go_wp2_with (refine wpList_load_agg rfl 28 _ rfl ⟨w.heap.size, 0, none⟩ rfl [.int .i64 b.first, .slice A n cap, .int .i64 b.rate] hcB0.out _ Tryz.underlying28 rfl Bas.size ?_)
    refine (impl_IsPortfolio_any b A n cap H m hcap xs _ HBT.out HL.out hm HX.out HF.out).mono ?_
    rw [hp]
    rintro e w1 ⟨rfl, hb1⟩
    go_wp2
    go_ret2
    exact ⟨none, 0, 0, by rw [Q.out]; rfl, by rw [Q.out]; exact Res.nil_, hbw.trans (hb1.mono hbw.size)⟩
  obtain ⟨h30, hh⟩ := port_hold hp
  have HKA := Lib.hid (fun k x (hx : xs[k]? = some x) => kind_add h30 hh hx)
  have HH := Lib.hid hh; clear hh
  have hm30 : m ≤ 30 := by have := HL.out; omega
  have Q := Lib.hid (show kindsP b xs = ([kindAt b xs 0 xs.length, kindAt b xs 1 xs.length, kindAt b xs 2 xs.length, kindAt b xs 3 xs.length], 0) by simp [kindsP, hp])
  obtain ⟨i0, hi0, hz0, hz1, hz2⟩ := info_parts Int64.info
  have hmk : ∀ W : World, (Instr.makeSlice 24 (.int .i64 4) (.int .i64 4)).run Tryz.prog W = .ok (.slice (some ⟨W.heap.size, 0, none⟩) 4 4) (W.alloc (.cells #[.int .i64 0, .int .i64 0, .int .i64 0, .int .i64 0] 2)) := fun W => by
    have h := run_make_rowN (P := Tryz.prog) 24 2 i0 _ Tryz.underlying24 hi0 hz0 .i64 .i64 4 4 (Nat.le_refl _) (by rw [hz2]; omega) (by omega) W
    rw [hz1, four_cells] at h
    exact h
  clear hi0 hz0 hz1 hz2
  go_enter Tryz.func38, Tryz.ntmps38
  go_wp2_with (refine wpList_load_agg rfl 28 _ rfl ⟨w.heap.size, 0, none⟩ rfl [.int .i64 b.first, .slice A n cap, .int .i64 b.rate] hcB0.out _ Tryz.underlying28 rfl Bas.size ?_)
  refine (impl_IsPortfolio_any b A n cap H m hcap xs _ HBT.out HL.out hm HX.out HF.out).mono ?_
  rw [hp]
  rintro e w1 ⟨rfl, hb1⟩
  have HBT1 := Lib.hid (HBT.out.past hb1)
  have HX1 := Lib.hid (HX.out.past hb1)
  have hb01 := hbw.trans (hb1.mono hbw.size)
  have HB1 := Lib.hid (HB.out.below' hb1)
  have HK0 := Lib.hid (KindBlk.zero (w := w1) (b := b) (xs := xs))
  have hb4 : Below w1.heap.size w1 (w1.alloc (.cells #[.int .i64 0, .int .i64 0, .int .i64 0, .int .i64 0] 2)) := (Below.refl _ _).alloc (Nat.le_refl _) _
  go_wp2
  clear hmk
  go_loopw [16] (fun i wr => ∃ k : Nat, k ≤ m ∧ i = .int .i64 k ∧ KindBlk wr w1.heap.size b xs k ∧ Below w1.heap.size w1 wr) (fun i _ => m - (intOf i).toNat)
  case atStart => exact ⟨0, by omega, rfl, HK0.out, hb4⟩
  case round =>
    obtain ⟨k, hk, rfl, hK, hb⟩ := hrel
    have HK := Lib.hid hK; clear hK
    by_cases hlt : k < m
    · obtain ⟨x, hx⟩ := get_of_lt (xs := xs) (k := k) (by rw [HL.out]; exact hlt)
      obtain ⟨ad, rfl, had, _, hc⟩ := (HX1.out.past hb).at' (holdingRows_get hx)
      have Hx := Lib.hid (HH.out x (List.mem_of_getElem? hx))
      obtain ⟨ka1, ka2⟩ := HKA.out k x hx
      have hbd := hold_kind4 Hx.out
      obtain ⟨kb1, kb2⟩ := hbd
      have HXK := Lib.hid hx; clear hx
      have Hc := Lib.hid hc; clear hc
      have hk63 : (k : Int) < 1048576 := by omega
      have hbn : Below wr.heap.size wr (wr.alloc (.cells #[.int .i64 x.kind, .int .i64 x.age, .int .i64 x.years, .int .i64 x.sum, .int .i64 x.load, .int .i64 x.year, .int .i64 x.count] 90)) := (Below.refl _ wr).alloc (Nat.le_refl _) _
      have hbn1 := hb.trans (hbn.mono hb.size)
      have HBn := Lib.hid (HB1.out.below' hbn1)
      have HBTn := Lib.hid (HBT1.out.past hbn1)
      have HKn := Lib.hid (HK.out.past hbn)
      have HNn := Lib.hid (Blk.new wr 90 #[.int .i64 x.kind, .int .i64 x.age, .int .i64 x.years, .int .i64 x.sum, .int .i64 x.load, .int .i64 x.year, .int .i64 x.count])
      have hcB := Lib.hid (Blk.agg_past (cs := [.int .i64 b.first, .slice A n cap, .int .i64 b.rate]) HBn.out 0 [.int .i64 b.first, .slice A n cap, .int .i64 b.rate] rfl)
      have hcN := Lib.hid (Blk.agg_past (cs := [.int .i64 x.kind, .int .i64 x.age, .int .i64 x.years, .int .i64 x.sum, .int .i64 x.load, .int .i64 x.year, .int .i64 x.count]) HNn.out 0 [.int .i64 x.kind, .int .i64 x.age, .int .i64 x.years, .int .i64 x.sum, .int .i64 x.load, .int .i64 x.year, .int .i64 x.count] rfl)
      have d0 := fun y : Past (wr.alloc (.cells #[.int .i64 x.kind, .int .i64 x.age, .int .i64 x.years, .int .i64 x.sum, .int .i64 x.load, .int .i64 x.year, .int .i64 x.count] 90)) => Past.cell (p := ⟨wr.heap.size, 0, none⟩) (v := .int .i64 x.kind) (HNn.out.cell 0) y
      have d1 := fun y : Past (wr.alloc (.cells #[.int .i64 x.kind, .int .i64 x.age, .int .i64 x.years, .int .i64 x.sum, .int .i64 x.load, .int .i64 x.year, .int .i64 x.count] 90)) => Past.cell (p := ⟨w1.heap.size, x.kind.toNat, none⟩) (HKn.out.cell ⟨kb1, kb2⟩).1 y
      go_wp2_with (refine wpList_load_agg rfl 90 _ rfl (ad.add (k * 7)) rfl [.int .i64 x.kind, .int .i64 x.age, .int .i64 x.years, .int .i64 x.sum, .int .i64 x.load, .int .i64 x.year, .int .i64 x.count] Hc.out _ Tryz.underlying90 rfl Holding.size ?_)
      refine wp_region_past_tail 11 (by kernel_rfl) (by kernel_rfl) ?_
      simp only [List.take_succ_cons, List.take_zero, List.drop_succ_cons, List.drop_zero]
      repeat (first | (go_big_quiet_want; (first | (first | (refine quiet_load_agg 28 _ rfl ⟨w.heap.size, 0, none⟩ rfl [.int .i64 b.first, .slice A n cap, .int .i64 b.rate] hcB.out _ Tryz.underlying28 rfl Bas.size ?_) | (refine quiet_load_agg 90 _ rfl ⟨wr.heap.size, 0, none⟩ rfl [.int .i64 x.kind, .int .i64 x.age, .int .i64 x.years, .int .i64 x.sum, .int .i64 x.load, .int .i64 x.year, .int .i64 x.count] hcN.out _ Tryz.underlying90 rfl Holding.size ?_))); go_simp; go_big_quiet_on) | go_big_quiet_step ((go_at_call 107; exact past_call (impl_Holding_reserve_any b A n cap x _ (HBTn.out.at_past _) Hx.out))))
      refine wpQuiet_nil ?_
      rintro _ ⟨y, rfl⟩
      have HKy := Lib.hid (HKn.out.past y.2)
      have cz : y.1.cell? ⟨w1.heap.size, x.kind.toNat, none⟩ = some (.int .i64 (kindAt b xs x.kind k)) := (HKy.out.cell ⟨kb1, kb2⟩).1
      have fz : y.1.frozen? ⟨w1.heap.size, x.kind.toNat, none⟩ = false := (HKy.out.cell ⟨kb1, kb2⟩).2
      have hby : Below w1.heap.size w1 y.1 := hbn1.trans (y.2.mono hbn1.size)
      go_wp2
      go_roundw
      case rel => exact ⟨k + 1, by omega, by go_num, HKy.out.next HXK.out ⟨kb1, kb2⟩, hby.setCell (Nat.le_refl _) _⟩
      case measure => simp [intOf]; omega
    · have hkn : k = m := by omega
      subst hkn
      go_wp2
      go_ret2
      refine ⟨some ⟨w1.heap.size, 0, none⟩, 4, 4, by rw [Q.out]; rfl, ?_, hb01.trans (hb.mono hb01.size)⟩
      rw [Q.out]
      exact HK.out.res HL.out (by have := hb01.size; omega)


set_option maxHeartbeats 4000000 in
theorem spec_ReserveByKind_any (b : Bas) (A : Option Addr) (n cap : Nat) (H : Option Addr) (m hcap : Nat) (xs : List Holding) (w : World) (hB : BasT w A n cap b) (hl : xs.length = m) (hm : m ≤ 1048576) (hX : Rd w w.heap.size H 7 (holdingRows xs)) (hf : ∀ x ∈ xs, x.fits) :
    Calls Tryz.prog 39 #[.agg #[.int .i64 b.first, .slice A n cap, .int .i64 b.rate], .slice H m hcap] w fun e w' => ∃ A' n' c', e = .returned (.tuple #[.slice A' n' c', .int .i64 (kindsP b xs).2]) ∧ Res w.heap.size w' 2 1 A' n' c' (intRows (kindsP b xs).1) ∧ Below w.heap.size w w' := by
  have hbw : Below w.heap.size w (w.alloc (.cells #[.int .i64 b.first, .slice A n cap, .int .i64 b.rate] 28)) := (Below.refl _ w).alloc (Nat.le_refl _) _
  have HB := Lib.hid (Blk.new w 28 #[.int .i64 b.first, .slice A n cap, .int .i64 b.rate])
  have HBT := Lib.hid (hB.past hbw); clear hB
  have HX := Lib.hid (hX.past hbw); clear hX
  have HL := Lib.hid hl; clear hl
  have HF := Lib.hid hf; clear hf
  have hcB0 := Lib.hid (Blk.agg (cs := [.int .i64 b.first, .slice A n cap, .int .i64 b.rate]) HB.out 0 [.int .i64 b.first, .slice A n cap, .int .i64 b.rate] rfl)
  cases hp : portB b xs
  · have Q := Lib.hid (show kindsP b xs = ([], 1) by simp [kindsP, hp])
    go_enter Tryz.func39, Tryz.ntmps39
    go_wp2_with (refine wpList_load_agg rfl 28 _ rfl ⟨w.heap.size, 0, none⟩ rfl [.int .i64 b.first, .slice A n cap, .int .i64 b.rate] hcB0.out _ Tryz.underlying28 rfl Bas.size ?_)
    refine (spec_IsPortfolio_any b A n cap H m hcap xs _ HBT.out HL.out hm HX.out HF.out).mono ?_
    rw [hp]
    rintro e w1 ⟨rfl, hb1⟩
    go_wp2
    go_ret2
    exact ⟨none, 0, 0, by rw [Q.out]; rfl, by rw [Q.out]; exact Res.nil_, hbw.trans (hb1.mono hbw.size)⟩
  obtain ⟨h30, hh⟩ := port_hold hp
  have HKA := Lib.hid (fun k x (hx : xs[k]? = some x) => kind_add h30 hh hx)
  have HH := Lib.hid hh; clear hh
  have hm30 : m ≤ 30 := by have := HL.out; omega
  have Q := Lib.hid (show kindsP b xs = ([kindAt b xs 0 xs.length, kindAt b xs 1 xs.length, kindAt b xs 2 xs.length, kindAt b xs 3 xs.length], 0) by simp [kindsP, hp])
  obtain ⟨i0, hi0, hz0, hz1, hz2⟩ := info_parts Int64.info
  have hmk : ∀ W : World, (Instr.makeSlice 24 (.int .i64 4) (.int .i64 4)).run Tryz.prog W = .ok (.slice (some ⟨W.heap.size, 0, none⟩) 4 4) (W.alloc (.cells #[.int .i64 0, .int .i64 0, .int .i64 0, .int .i64 0] 2)) := fun W => by
    have h := run_make_rowN (P := Tryz.prog) 24 2 i0 _ Tryz.underlying24 hi0 hz0 .i64 .i64 4 4 (Nat.le_refl _) (by rw [hz2]; omega) (by omega) W
    rw [hz1, four_cells] at h
    exact h
  clear hi0 hz0 hz1 hz2
  go_enter Tryz.func39, Tryz.ntmps39
  go_wp2_with (refine wpList_load_agg rfl 28 _ rfl ⟨w.heap.size, 0, none⟩ rfl [.int .i64 b.first, .slice A n cap, .int .i64 b.rate] hcB0.out _ Tryz.underlying28 rfl Bas.size ?_)
  refine (spec_IsPortfolio_any b A n cap H m hcap xs _ HBT.out HL.out hm HX.out HF.out).mono ?_
  rw [hp]
  rintro e w1 ⟨rfl, hb1⟩
  have HBT1 := Lib.hid (HBT.out.past hb1)
  have HX1 := Lib.hid (HX.out.past hb1)
  have hb01 := hbw.trans (hb1.mono hbw.size)
  have HB1 := Lib.hid (HB.out.below' hb1)
  have HK0 := Lib.hid (KindBlk.zero (w := w1) (b := b) (xs := xs))
  have hb4 : Below w1.heap.size w1 (w1.alloc (.cells #[.int .i64 0, .int .i64 0, .int .i64 0, .int .i64 0] 2)) := (Below.refl _ _).alloc (Nat.le_refl _) _
  go_wp2
  clear hmk
  go_loopw [7] (fun i wr => ∃ k : Nat, k ≤ m ∧ i = .int .i64 k ∧ KindBlk wr w1.heap.size b xs k ∧ Below w1.heap.size w1 wr) (fun i _ => m - (intOf i).toNat)
  case atStart => exact ⟨0, by omega, rfl, HK0.out, hb4⟩
  case round =>
    obtain ⟨k, hk, rfl, hK, hb⟩ := hrel
    have HK := Lib.hid hK; clear hK
    by_cases hlt : k < m
    · obtain ⟨x, hx⟩ := get_of_lt (xs := xs) (k := k) (by rw [HL.out]; exact hlt)
      obtain ⟨ad, rfl, had, _, hc⟩ := (HX1.out.past hb).at' (holdingRows_get hx)
      have Hx := Lib.hid (HH.out x (List.mem_of_getElem? hx))
      obtain ⟨ka1, ka2⟩ := HKA.out k x hx
      have hbd := hold_kind4 Hx.out
      obtain ⟨kb1, kb2⟩ := hbd
      have HXK := Lib.hid hx; clear hx
      have Hc := Lib.hid hc; clear hc
      have hk63 : (k : Int) < 1048576 := by omega
      have hbn1 := hb
      have hbn : Below wr.heap.size wr wr := Below.refl _ _
      have HBn := Lib.hid (HB1.out.below' hbn1)
      have HBTn := Lib.hid (HBT1.out.past hbn1)
      have HKn := Lib.hid HK.out
      have hcB := Lib.hid (Blk.agg_past (cs := [.int .i64 b.first, .slice A n cap, .int .i64 b.rate]) HBn.out 0 [.int .i64 b.first, .slice A n cap, .int .i64 b.rate] rfl)
      have hcH := Lib.hid (Past.cells' Hc.out)
      have c0 : wr.cell? (ad.add (k * 7)) = some (.int .i64 x.kind) := by have := Hc.out 0 (.int .i64 x.kind) rfl; rwa [add_zero_at] at this
      have d1 := fun y : Past wr => Past.cell (p := ⟨w1.heap.size, x.kind.toNat, none⟩) (HKn.out.cell ⟨kb1, kb2⟩).1 y
      go_wp2
      refine wp_region_past_tail 14 (by kernel_rfl) (by kernel_rfl) ?_
      simp only [List.take_succ_cons, List.take_zero, List.drop_succ_cons, List.drop_zero]
      repeat (first | (go_big_quiet_want; (first | (first | (refine quiet_load_agg 28 _ rfl ⟨w.heap.size, 0, none⟩ rfl [.int .i64 b.first, .slice A n cap, .int .i64 b.rate] hcB.out _ Tryz.underlying28 rfl Bas.size ?_) | (refine quiet_load_agg 90 _ rfl (ad.add (k * 7)) rfl x.row hcH.out _ Tryz.underlying90 rfl Holding.size ?_))); go_simp; go_big_quiet_on) | go_big_quiet_step ((go_at_call 106; exact past_call (spec_l17Reserve_any b A n cap x _ (HBTn.out.at_past _) Hx.out))))
      refine wpQuiet_nil ?_
      rintro _ ⟨y, rfl⟩
      have HKy := Lib.hid (HKn.out.past y.2)
      have cz : y.1.cell? ⟨w1.heap.size, x.kind.toNat, none⟩ = some (.int .i64 (kindAt b xs x.kind k)) := (HKy.out.cell ⟨kb1, kb2⟩).1
      have fz : y.1.frozen? ⟨w1.heap.size, x.kind.toNat, none⟩ = false := (HKy.out.cell ⟨kb1, kb2⟩).2
      have hby : Below w1.heap.size w1 y.1 := hbn1.trans (y.2.mono hbn1.size)
      go_wp2
      go_roundw
      case rel => exact ⟨k + 1, by omega, by go_num, HKy.out.next HXK.out ⟨kb1, kb2⟩, hby.setCell (Nat.le_refl _) _⟩
      case measure => simp [intOf]; omega
    · have hkn : k = m := by omega
      subst hkn
      go_wp2
      go_ret2
      refine ⟨some ⟨w1.heap.size, 0, none⟩, 4, 4, by rw [Q.out]; rfl, ?_, hb01.trans (hb.mono hb01.size)⟩
      rw [Q.out]
      exact HK.out.res HL.out (by have := hb01.size; omega)

end Go.Proofs.YtbjdbpdgacfcpaaGreat
end

/- The reserve of a part of a portfolio: one holding. -/
section
namespace Go.Proofs.YtbjdbpdgacfcpaaGreat
open Go.RowKit Go.BigFrame
theorem impl_TotalReserve_one (b : Bas) (A : Option Addr) (n cap : Nat) (H : Option Addr) (m hcap : Nat) (x : Holding) (w : World) (hB : BasT w A n cap b) (hm : m = 1) (hX : Rd w w.heap.size H 7 (holdingRows [x])) (hf : x.fits) (ht : totP b [x] = (resV b x, 0)) :
    Calls Tryz.prog 22 #[.agg #[.int .i64 b.first, .slice A n cap, .int .i64 b.rate], .slice H m hcap] w fun e w' => e = .returned (.tuple #[.int .i64 (resV b x), .int .i64 0]) ∧ Below w.heap.size w w' := by
  subst hm
  have h := impl_TotalReserve_any b A n cap H 1 hcap [x] w hB rfl (by omega) hX (fun z hz => by rw [List.mem_singleton.1 hz]; exact hf)
  rw [ht] at h
  exact h
end Go.Proofs.YtbjdbpdgacfcpaaGreat
end
