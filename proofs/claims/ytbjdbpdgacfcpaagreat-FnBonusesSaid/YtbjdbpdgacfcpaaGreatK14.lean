/- Parts of a proof, one after another: Req. No condition. -/
import Derived.Test.YtbjdbpdgacfcpaaGreatK9
import Derived.Test.YtbjdbpdgacfcpaaGreatK13
/- The reserve that a scenario requires: the program's and the reference's contracts. -/
section
namespace Go.Proofs.YtbjdbpdgacfcpaaGreat
open Go.RowKit Go.BigFrame

def reqV (b c : Bas) (x : Holding) : Int := x.count * roundP (fwdP x.pol.sum (partT c x.pol x.year) (netP b x.pol) (partB c x.pol x.year) (partD c x.pol x.year))
def reqL (b c : Bas) (xs : List Holding) : List Int := xs.map (reqV b c)
def reqIn (b : Bas) (xs : List Holding) (r : Scenario) (i : Bool) : Int × Int :=
  if portB b xs = true then (if (i && scenB b r) = true then (if portB (chgB b r) xs = true then ((reqL b (chgB b r) xs).sum, 0) else (0, 5)) else (0, 2)) else (0, 1)
def reqP (b : Bas) (xs : List Holding) (r : Scenario) : Int × Int := reqIn b xs r true
theorem req_part {b c : Bas} {x : Holding} (H : holdB b x = true) (H' : holdB c x = true) : PartOk x.pol.sum (partT c x.pol x.year) (netP b x.pol) (partB c x.pol x.year) (partD c x.pol x.year) := part_ok (hold_ok H').2 (net_bound (pol_ok (hold_pol H)))
theorem reqV_bound {b c : Bas} {x : Holding} (H : holdB b x = true) (H' : holdB c x = true) : 0 ≤ reqV b c x ∧ reqV b c x ≤ 100000001000000 := by
  obtain ⟨⟨c0, c1⟩, _⟩ := hold_ok H
  obtain ⟨r0, r1⟩ := round_bound (req_part H H')
  unfold reqV
  refine ⟨Int.mul_nonneg c0 r0, ?_⟩
  have h1 : x.count * roundP (fwdP x.pol.sum (partT c x.pol x.year) (netP b x.pol) (partB c x.pol x.year) (partD c x.pol x.year)) ≤ 1000000 * roundP (fwdP x.pol.sum (partT c x.pol x.year) (netP b x.pol) (partB c x.pol x.year) (partD c x.pol x.year)) := Int.mul_le_mul_of_nonneg_right c1 r0
  omega
theorem reqL_get {b c : Bas} {xs : List Holding} {k : Nat} {x : Holding} (h : xs[k]? = some x) : (reqL b c xs)[k]? = some (reqV b c x) := by simp [reqL, h]
theorem reqL_sums {b c : Bas} {xs : List Holding} (hl : xs.length ≤ 30) (hh : ∀ x ∈ xs, holdB b x = true) (hh' : ∀ x ∈ xs, holdB c x = true) : Sums (reqL b c xs) ∧ 0 ≤ (reqL b c xs).sum ∧ (reqL b c xs).sum ≤ 100000001000000 * (30 : Nat) :=
  sums_of (n := 30) (hi := 100000001000000) (by omega) (by simpa [reqL] using hl) (fun v hv => by
    obtain ⟨x, hx, rfl⟩ := List.mem_map.1 hv
    exact reqV_bound (hh x hx) (hh' x hx)) (by omega)
theorem port_basis {b : Bas} {xs : List Holding} (H : portB b xs = true) : basisB b = true := by
  simp only [portB, Bool.and_eq_true] at H; exact H.1
theorem BasT.of_res {w : World} {B n c : Nat} {A : Option Addr} {b : Bas} (h : Res B w 2 1 A n c (intRows b.lives)) (hl : b.lives.length ≤ 1048576) (hf : ∀ x ∈ b.lives, In64 x) (h1 : In64 b.first) (h2 : In64 b.rate) : BasT w A n c b := by
  have hn : b.lives.length = n := by have := h.len; rwa [intRows_length] at this
  have hc : n ≤ c := by
    rcases h.own.2 with ⟨h1, h2⟩ | ⟨g, c, cur, e, _, _, hnc, _⟩
    · simp only [Value.slice.injEq] at h1; omega
    · simp only [Value.slice.injEq] at e; omega
  exact ⟨⟨hn, by omega, h.rd, hf⟩, hc, h1, h2⟩
theorem chgB_basT {w : World} {B n c : Nat} {A : Option Addr} {b : Bas} {r : Scenario} (hb : BasOk b) (hs : scenB b r = true) (h : Res B w 2 1 A n c (intRows (chgB b r).lives)) : BasT w A n c (chgB b r) := by
  obtain ⟨h3, h4, h5⟩ := scen_ok hs
  have := hb.tab.first0; have := hb.tab.first1
  refine BasT.of_res h ?_ (chgL_fits hb.tab h4) (by unfold chgB In64; simp only; omega) (by unfold chgB In64; simp only; omega)
  have h6 := chgLen_le (xs := b.lives) (dt := r.death)
  have h7 := hb.tab.len1
  simp only [chgB, chgL_length]; omega


set_option maxRecDepth 100000 in
set_option maxHeartbeats 8000000 in
theorem impl_RequiredReserve_any (b : Bas) (A : Option Addr) (n cap : Nat) (H : Option Addr) (m hcap : Nat) (xs : List Holding) (r : Scenario) (w : World) (hB : BasT w A n cap b) (hl : xs.length = m) (hm : m ≤ 1048576) (hX : Rd w w.heap.size H 7 (holdingRows xs)) (hf : ∀ x ∈ xs, x.fits) (_hr : r.fits) :
    Calls Tryz.prog 10 #[.agg #[.int .i64 b.first, .slice A n cap, .int .i64 b.rate], .slice H m hcap, .agg r.row.toArray] w fun e w' => e = .returned (.tuple #[.int .i64 (reqP b xs r).1, .int .i64 (reqP b xs r).2]) ∧ Below w.heap.size w w' := by
  have hbw : Below w.heap.size w ((w.alloc (.cells #[.int .i64 b.first, .slice A n cap, .int .i64 b.rate] 28)).alloc (.cells #[.int .i64 r.rate, .int .i64 r.death] 31)) := ((Below.refl _ w).alloc (Nat.le_refl _) _).alloc (by simp) _
  have HB := Lib.hid ((Blk.new w 28 #[.int .i64 b.first, .slice A n cap, .int .i64 b.rate]).alloc (.cells #[.int .i64 r.rate, .int .i64 r.death] 31))
  have HC := Lib.hid (Blk.new (w.alloc (.cells #[.int .i64 b.first, .slice A n cap, .int .i64 b.rate] 28)) 31 #[.int .i64 r.rate, .int .i64 r.death])
  simp only [World.size_alloc] at HC
  have HBT := Lib.hid (hB.past hbw); clear hB
  have HX := Lib.hid (hX.past hbw); clear hX
  have HL := Lib.hid hl; clear hl
  have HF := Lib.hid hf; clear hf
  have HRF := Lib.hid _hr; clear _hr
  unfold Scenario.row at *
  have hcB0 := Lib.hid (Blk.agg (cs := [.int .i64 b.first, .slice A n cap, .int .i64 b.rate]) HB.out 0 [.int .i64 b.first, .slice A n cap, .int .i64 b.rate] rfl)
  cases hp : portB b xs
  · have Q := Lib.hid (show reqP b xs r = (0, 1) by simp [reqP, reqIn, hp])
    go_enter Tryz.func10, Tryz.ntmps10
    go_wp2_with (refine wpList_load_agg rfl 28 _ rfl ⟨w.heap.size, 0, none⟩ rfl [.int .i64 b.first, .slice A n cap, .int .i64 b.rate] hcB0.out _ Tryz.underlying28 rfl Bas.size ?_)
    refine (impl_IsPortfolio_any b A n cap H m hcap xs _ HBT.out HL.out hm HX.out HF.out).mono ?_
    rw [hp]
    rintro e w1 ⟨rfl, hb1⟩
    have hb01 := hbw.trans (hb1.mono hbw.size)
    go_wp2
    go_ret2
    exact ⟨by rw [Q.out]; rfl, hb01⟩
  have HBK := Lib.hid (basis_ok (port_basis hp))
  cases hs : scenB b r
  · have Q := Lib.hid (show reqP b xs r = (0, 2) by simp [reqP, reqIn, hp, hs])
    have QC := Lib.hid (show chgBP b r = (⟨0, [], 0⟩, 2) by simp [chgBP, port_basis hp, hs])
    go_enter Tryz.func10, Tryz.ntmps10
    go_wp2_with (refine wpList_load_agg rfl 28 _ rfl ⟨w.heap.size, 0, none⟩ rfl [.int .i64 b.first, .slice A n cap, .int .i64 b.rate] hcB0.out _ Tryz.underlying28 rfl Bas.size ?_)
    refine (impl_IsPortfolio_any b A n cap H m hcap xs _ HBT.out HL.out hm HX.out HF.out).mono ?_
    rw [hp]
    rintro e w1 ⟨rfl, hb1⟩
    have hb01 := hbw.trans (hb1.mono hbw.size)
    have HB1 := Lib.hid (HB.out.below' hb1)
    have HC1 := Lib.hid (HC.out.below' hb1)
    have HBT1 := Lib.hid (HBT.out.past hb1)
    have HX1 := Lib.hid (HX.out.past hb1)
    have hcB1 := Lib.hid (Blk.agg (cs := [.int .i64 b.first, .slice A n cap, .int .i64 b.rate]) HB1.out 0 [.int .i64 b.first, .slice A n cap, .int .i64 b.rate] rfl)
    have hcC1 := Lib.hid (Blk.agg (cs := [.int .i64 r.rate, .int .i64 r.death]) HC1.out 0 [.int .i64 r.rate, .int .i64 r.death] rfl)
    go_wp2_with (first | (refine wpList_load_agg rfl 28 _ rfl ⟨w.heap.size, 0, none⟩ rfl [.int .i64 b.first, .slice A n cap, .int .i64 b.rate] hcB1.out _ Tryz.underlying28 rfl Bas.size ?_) | (refine wpList_load_agg rfl 31 _ rfl ⟨w.heap.size + 1, 0, none⟩ rfl [.int .i64 r.rate, .int .i64 r.death] hcC1.out _ Tryz.underlying31 rfl Scenario.size ?_))
    refine (impl_ChangeBasis_any b A n cap r _ HBT1.out HRF.out).mono ?_
    rw [QC.out]
    rintro e w2 ⟨A', n', c', rfl, hR, hb2⟩
    have HR := Lib.hid hR; clear hR
    have hb02 := hb01.trans (hb2.mono hb01.size)
    go_wp2
    go_ret2
    exact ⟨by rw [Q.out]; rfl, hb02.alloc hb02.size _⟩
  obtain ⟨c, hc⟩ : ∃ c, chgB b r = c := ⟨_, rfl⟩
  have QC := Lib.hid (show chgBP b r = (c, 0) by simp [chgBP, port_basis hp, hs, hc])
  have HCT := Lib.hid (fun (w : World) (B n cp : Nat) (A : Option Addr) (h : Res B w 2 1 A n cp (intRows c.lives)) => (show BasT w A n cp c by rw [← hc] at h ⊢; exact chgB_basT HBK.out hs h))
  cases hp2 : portB c xs
  · have Q := Lib.hid (show reqP b xs r = (0, 5) by simp [reqP, reqIn, hp, hs, hc, hp2])
    have HP2 := Lib.hid hp2
    clear hc
    go_enter Tryz.func10, Tryz.ntmps10
    go_wp2_with (refine wpList_load_agg rfl 28 _ rfl ⟨w.heap.size, 0, none⟩ rfl [.int .i64 b.first, .slice A n cap, .int .i64 b.rate] hcB0.out _ Tryz.underlying28 rfl Bas.size ?_)
    refine (impl_IsPortfolio_any b A n cap H m hcap xs _ HBT.out HL.out hm HX.out HF.out).mono ?_
    rw [hp]
    rintro e w1 ⟨rfl, hb1⟩
    have hb01 := hbw.trans (hb1.mono hbw.size)
    have HB1 := Lib.hid (HB.out.below' hb1)
    have HC1 := Lib.hid (HC.out.below' hb1)
    have HBT1 := Lib.hid (HBT.out.past hb1)
    have HX1 := Lib.hid (HX.out.past hb1)
    have hcB1 := Lib.hid (Blk.agg (cs := [.int .i64 b.first, .slice A n cap, .int .i64 b.rate]) HB1.out 0 [.int .i64 b.first, .slice A n cap, .int .i64 b.rate] rfl)
    have hcC1 := Lib.hid (Blk.agg (cs := [.int .i64 r.rate, .int .i64 r.death]) HC1.out 0 [.int .i64 r.rate, .int .i64 r.death] rfl)
    go_wp2_with (first | (refine wpList_load_agg rfl 28 _ rfl ⟨w.heap.size, 0, none⟩ rfl [.int .i64 b.first, .slice A n cap, .int .i64 b.rate] hcB1.out _ Tryz.underlying28 rfl Bas.size ?_) | (refine wpList_load_agg rfl 31 _ rfl ⟨w.heap.size + 1, 0, none⟩ rfl [.int .i64 r.rate, .int .i64 r.death] hcC1.out _ Tryz.underlying31 rfl Scenario.size ?_))
    refine (impl_ChangeBasis_any b A n cap r _ HBT1.out HRF.out).mono ?_
    rw [QC.out]
    rintro e w2 ⟨A', n', c', rfl, hR, hb2⟩
    have HR := Lib.hid hR; clear hR
    have hb02 := hb01.trans (hb2.mono hb01.size)
    have hbn2 : Below w2.heap.size w2 (w2.alloc (.cells #[.int .i64 c.first, .slice A' n' c', .int .i64 c.rate] 28)) := (Below.refl _ _).alloc (Nat.le_refl _) _
    have hb12 := below_step hb2 hbn2
    have hb03 := hb01.trans (hb12.mono hb01.size)
    have HB3 := Lib.hid (HB1.out.below' hb12)
    have HD3 := Lib.hid (Blk.new w2 28 #[.int .i64 c.first, .slice A' n' c', .int .i64 c.rate])
    have HBT3 := Lib.hid (HBT1.out.past hb12)
    have HX3 := Lib.hid (HX1.out.past hb12)
    have HCT3 := Lib.hid (HCT.out _ _ _ _ _ (HR.out.past hbn2))
    have hcD3 := Lib.hid (Blk.agg (cs := [.int .i64 c.first, .slice A' n' c', .int .i64 c.rate]) HD3.out 0 [.int .i64 c.first, .slice A' n' c', .int .i64 c.rate] rfl)
    go_wp2_with (refine wpList_load_agg rfl 28 _ rfl ⟨w2.heap.size, 0, none⟩ rfl [.int .i64 c.first, .slice A' n' c', .int .i64 c.rate] hcD3.out _ Tryz.underlying28 rfl Bas.size ?_)
    refine (impl_IsPortfolio_any c A' n' c' H m hcap xs _ HCT3.out HL.out hm HX3.out HF.out).mono ?_
    rw [HP2.out]
    rintro e w4 ⟨rfl, hb4⟩
    have hb04 := hb03.trans (hb4.mono hb03.size)
    go_wp2
    go_ret2
    exact ⟨by rw [Q.out]; rfl, hb04⟩
  · have Q := Lib.hid (show reqP b xs r = ((reqL b c xs).sum, 0) by simp [reqP, reqIn, hp, hs, hc, hp2])
    obtain ⟨h30, hh⟩ := port_hold hp
    obtain ⟨_, hh'⟩ := port_hold hp2
    have HS := Lib.hid (reqL_sums h30 hh hh').1
    have HH := Lib.hid hh; clear hh h30
    have HH' := Lib.hid hh'; clear hh'
    have HP2 := Lib.hid hp2
    clear hc
    go_enter Tryz.func10, Tryz.ntmps10
    go_wp2_with (refine wpList_load_agg rfl 28 _ rfl ⟨w.heap.size, 0, none⟩ rfl [.int .i64 b.first, .slice A n cap, .int .i64 b.rate] hcB0.out _ Tryz.underlying28 rfl Bas.size ?_)
    refine (impl_IsPortfolio_any b A n cap H m hcap xs _ HBT.out HL.out hm HX.out HF.out).mono ?_
    rw [hp]
    rintro e w1 ⟨rfl, hb1⟩
    have hb01 := hbw.trans (hb1.mono hbw.size)
    have HB1 := Lib.hid (HB.out.below' hb1)
    have HC1 := Lib.hid (HC.out.below' hb1)
    have HBT1 := Lib.hid (HBT.out.past hb1)
    have HX1 := Lib.hid (HX.out.past hb1)
    have hcB1 := Lib.hid (Blk.agg (cs := [.int .i64 b.first, .slice A n cap, .int .i64 b.rate]) HB1.out 0 [.int .i64 b.first, .slice A n cap, .int .i64 b.rate] rfl)
    have hcC1 := Lib.hid (Blk.agg (cs := [.int .i64 r.rate, .int .i64 r.death]) HC1.out 0 [.int .i64 r.rate, .int .i64 r.death] rfl)
    go_wp2_with (first | (refine wpList_load_agg rfl 28 _ rfl ⟨w.heap.size, 0, none⟩ rfl [.int .i64 b.first, .slice A n cap, .int .i64 b.rate] hcB1.out _ Tryz.underlying28 rfl Bas.size ?_) | (refine wpList_load_agg rfl 31 _ rfl ⟨w.heap.size + 1, 0, none⟩ rfl [.int .i64 r.rate, .int .i64 r.death] hcC1.out _ Tryz.underlying31 rfl Scenario.size ?_))
    refine (impl_ChangeBasis_any b A n cap r _ HBT1.out HRF.out).mono ?_
    rw [QC.out]
    rintro e w2 ⟨A', n', c', rfl, hR, hb2⟩
    have HR := Lib.hid hR; clear hR
    have hb02 := hb01.trans (hb2.mono hb01.size)
    have hbn2 : Below w2.heap.size w2 (w2.alloc (.cells #[.int .i64 c.first, .slice A' n' c', .int .i64 c.rate] 28)) := (Below.refl _ _).alloc (Nat.le_refl _) _
    have hb12 := below_step hb2 hbn2
    have hb03 := hb01.trans (hb12.mono hb01.size)
    have HB3 := Lib.hid (HB1.out.below' hb12)
    have HD3 := Lib.hid (Blk.new w2 28 #[.int .i64 c.first, .slice A' n' c', .int .i64 c.rate])
    have HBT3 := Lib.hid (HBT1.out.past hb12)
    have HX3 := Lib.hid (HX1.out.past hb12)
    have HCT3 := Lib.hid (HCT.out _ _ _ _ _ (HR.out.past hbn2))
    have hcD3 := Lib.hid (Blk.agg (cs := [.int .i64 c.first, .slice A' n' c', .int .i64 c.rate]) HD3.out 0 [.int .i64 c.first, .slice A' n' c', .int .i64 c.rate] rfl)
    go_wp2_with (refine wpList_load_agg rfl 28 _ rfl ⟨w2.heap.size, 0, none⟩ rfl [.int .i64 c.first, .slice A' n' c', .int .i64 c.rate] hcD3.out _ Tryz.underlying28 rfl Bas.size ?_)
    refine (impl_IsPortfolio_any c A' n' c' H m hcap xs _ HCT3.out HL.out hm HX3.out HF.out).mono ?_
    rw [HP2.out]
    rintro e w4 ⟨rfl, hb4⟩
    have hb04 := hb03.trans (hb4.mono hb03.size)
    have hb14 := below_step hb12 hb4
    have HB4 := Lib.hid (HB1.out.below' hb14)
    have HD4 := Lib.hid (HD3.out.below' hb4)
    have HBT4 := Lib.hid (HBT1.out.past hb14)
    have HCT4 := Lib.hid (HCT3.out.past hb4)
    have HX4 := Lib.hid (HX1.out.past hb14)
    go_wp2
    go_loopw [10, 32] (fun s i wr => ∃ k : Nat, k ≤ m ∧ i = .int .i64 k ∧ s = .int .i64 ((reqL b c xs).take k).sum ∧ Below w4.heap.size w4 wr) (fun _ i _ => m - (intOf i).toNat)
    case atStart => exact ⟨0, by omega, rfl, rfl, Below.refl _ _⟩
    case round =>
      obtain ⟨k, hk, rfl, rfl, hb⟩ := hrel
      by_cases hlt : k < m
      · obtain ⟨x, hx⟩ := get_of_lt (xs := xs) (k := k) (by rw [HL.out]; exact hlt)
        obtain ⟨ad, rfl, had, _, hc⟩ := (HX4.out.past hb).at' (holdingRows_get hx)
        have HE := Lib.hid (sum_snoc (reqL_get (b := b) (c := c) hx))
        have Hx := Lib.hid (HH.out x (List.mem_of_getElem? hx))
        have Hx' := Lib.hid (HH'.out x (List.mem_of_getElem? hx)); clear hx
        have hbd := HS.out (k + 1)
        rw [HE.out] at hbd
        obtain ⟨b1, b2⟩ := hbd
        obtain ⟨v1, v2⟩ := reqV_bound Hx.out Hx'.out
        have HPK := Lib.hid (req_part Hx.out Hx'.out)
        have HPOL := Lib.hid (hold_pol Hx.out)
        obtain ⟨⟨n0, n1⟩, HYc⟩ := And.intro (hold_ok Hx.out).1 (Lib.hid (hold_ok Hx'.out).2)
        have Hc := Lib.hid hc; clear hc
        have hk63 : (k : Int) < 1048576 := by omega
        have hbn : Below wr.heap.size wr (wr.alloc (.cells #[.int .i64 x.kind, .int .i64 x.age, .int .i64 x.years, .int .i64 x.sum, .int .i64 x.load, .int .i64 x.year, .int .i64 x.count] 90)) := (Below.refl _ wr).alloc (Nat.le_refl _) _
        have hbN := below_step hb hbn
        have HBn := Lib.hid (HB4.out.below' hbN)
        have HDn := Lib.hid (HD4.out.below' hbN)
        have HBTn := Lib.hid (HBT4.out.past hbN)
        have HCTn := Lib.hid (HCT4.out.past hbN)
        have HN := Lib.hid (Blk.new wr 90 #[.int .i64 x.kind, .int .i64 x.age, .int .i64 x.years, .int .i64 x.sum, .int .i64 x.load, .int .i64 x.year, .int .i64 x.count])
        unfold reqV at b1 b2 v1 v2 HE
        obtain ⟨R, hR0⟩ : ∃ R, roundP (fwdP x.pol.sum (partT c x.pol x.year) (netP b x.pol) (partB c x.pol x.year) (partD c x.pol x.year)) = R := ⟨_, rfl⟩
        rw [hR0] at b1 b2 v1 v2 HE
        have HRR := Lib.hid hR0; clear hR0
        have hcB := Lib.hid (Blk.agg_past (cs := [.int .i64 b.first, .slice A n cap, .int .i64 b.rate]) HBn.out 0 [.int .i64 b.first, .slice A n cap, .int .i64 b.rate] rfl)
        have hcD := Lib.hid (Blk.agg_past (cs := [.int .i64 c.first, .slice A' n' c', .int .i64 c.rate]) HDn.out 0 [.int .i64 c.first, .slice A' n' c', .int .i64 c.rate] rfl)
        have hcN := Lib.hid (Blk.agg_past (cs := [.int .i64 x.kind, .int .i64 x.age, .int .i64 x.years, .int .i64 x.sum, .int .i64 x.load, .int .i64 x.year, .int .i64 x.count]) HN.out 0 [.int .i64 x.kind, .int .i64 x.age, .int .i64 x.years, .int .i64 x.sum, .int .i64 x.load, .int .i64 x.year, .int .i64 x.count] rfl)
        have hcP := Lib.hid (Blk.agg_past (cs := [.int .i64 x.kind, .int .i64 x.age, .int .i64 x.years, .int .i64 x.sum, .int .i64 x.load, .int .i64 x.year, .int .i64 x.count]) HN.out 0 [.int .i64 x.kind, .int .i64 x.age, .int .i64 x.years, .int .i64 x.sum, .int .i64 x.load] rfl)
        have d3 := fun y : Past (wr.alloc (.cells #[.int .i64 x.kind, .int .i64 x.age, .int .i64 x.years, .int .i64 x.sum, .int .i64 x.load, .int .i64 x.year, .int .i64 x.count] 90)) => Past.cell (p := ⟨wr.heap.size, 3, none⟩) (v := .int .i64 x.sum) (HN.out.cell 3) y
        have d6 := fun y : Past (wr.alloc (.cells #[.int .i64 x.kind, .int .i64 x.age, .int .i64 x.years, .int .i64 x.sum, .int .i64 x.load, .int .i64 x.year, .int .i64 x.count] 90)) => Past.cell (p := ⟨wr.heap.size, 6, none⟩) (v := .int .i64 x.count) (HN.out.cell 6) y
        go_wp2_with (refine wpList_load_agg rfl 90 _ rfl (ad.add (k * 7)) rfl [.int .i64 x.kind, .int .i64 x.age, .int .i64 x.years, .int .i64 x.sum, .int .i64 x.load, .int .i64 x.year, .int .i64 x.count] Hc.out _ Tryz.underlying90 rfl Holding.size ?_)
        refine wp_region_past (by kernel_rfl) (by kernel_rfl) ?_
        repeat (first | (go_big_quiet_want; (first | (first | (refine quiet_load_agg 28 _ rfl ⟨w.heap.size, 0, none⟩ rfl [.int .i64 b.first, .slice A n cap, .int .i64 b.rate] hcB.out _ Tryz.underlying28 rfl Bas.size ?_) | (refine quiet_load_agg 28 _ rfl ⟨w2.heap.size, 0, none⟩ rfl [.int .i64 c.first, .slice A' n' c', .int .i64 c.rate] hcD.out _ Tryz.underlying28 rfl Bas.size ?_) | (refine quiet_load_agg 90 _ rfl ⟨wr.heap.size, 0, none⟩ rfl [.int .i64 x.kind, .int .i64 x.age, .int .i64 x.years, .int .i64 x.sum, .int .i64 x.load, .int .i64 x.year, .int .i64 x.count] hcN.out _ Tryz.underlying90 rfl Holding.size ?_) | (refine quiet_load_agg 88 _ rfl ⟨wr.heap.size, 0, none⟩ rfl [.int .i64 x.kind, .int .i64 x.age, .int .i64 x.years, .int .i64 x.sum, .int .i64 x.load] hcP.out _ Tryz.underlying88 rfl Policy.size ?_))); go_simp; go_big_quiet_on) | go_big_quiet_step ((first | (go_at_call 75; exact past_call (impl_Holding_parts_any c A' n' c' x _ (HCTn.out.at_past _) HYc.out)) | (go_at_call 77; exact past_call (impl_netPremium_any b A n cap x.pol _ (HBTn.out.at_past _) HPOL.out)) | (go_at_call 76; exact past_call ((impl_reserveParts_rounded_any _ _ _ _ _ _ HPK.out).mono (by rw [HRR.out]; exact fun _ _ h => h))))))
        refine wpQuiet_nil ?_
        rintro _ ⟨y, rfl⟩
        clear d3 d6
        go_wp2
        go_roundw
        case rel => exact ⟨k + 1, by omega, by go_num, by rw [HE.out], hbN.trans (y.2.mono hbN.size)⟩
        case measure => simp [intOf]; omega
      · have hkn : k = m := by omega
        subst hkn
        go_wp2
        go_ret2
        exact ⟨by rw [Q.out, take_all (by rw [reqL, List.length_map]; exact HL.out)]; rfl, hb04.trans (hb.mono hb04.size)⟩


theorem spec_l21Basis_c (b c : Bas) (A : Option Addr) (n cap : Nat) (r : Scenario) (w : World) (hB : BasT w A n cap b) (hb : BasOk b) (hr : scenB b r = true) (hc : chgB b r = c) :
    Calls Tryz.prog 92 #[.agg #[.int .i64 b.first, .slice A n cap, .int .i64 b.rate], .agg r.row.toArray] w fun e w' => ∃ A' n' c', e = .returned (.agg #[.int .i64 c.first, .slice A' n' c', .int .i64 c.rate]) ∧ Res w.heap.size w' 2 1 A' n' c' (intRows c.lives) ∧ Below w.heap.size w w' := by
  subst hc
  exact (spec_l21Basis_any b A n cap r w hB hb hr).mono fun e w' ⟨A', c', h1, h2, h3⟩ => ⟨A', _, c', h1, h2, h3⟩


set_option maxRecDepth 100000 in
set_option maxHeartbeats 8000000 in
theorem spec_l21Required_any (b : Bas) (A : Option Addr) (n cap : Nat) (H : Option Addr) (m hcap : Nat) (xs : List Holding) (r : Scenario) (i : Bool) (w : World) (hB : BasT w A n cap b) (hl : xs.length = m) (hm : m ≤ 1048576) (hX : Rd w w.heap.size H 7 (holdingRows xs)) (hf : ∀ x ∈ xs, x.fits) (_hr : r.fits) :
    Calls Tryz.prog 78 #[.agg #[.int .i64 b.first, .slice A n cap, .int .i64 b.rate], .slice H m hcap, .agg r.row.toArray, .bool i] w fun e w' => e = .returned (.tuple #[.int .i64 (reqIn b xs r i).1, .int .i64 (reqIn b xs r i).2]) ∧ Below w.heap.size w w' := by
  have hbw : Below w.heap.size w ((w.alloc (.cells #[.int .i64 b.first, .slice A n cap, .int .i64 b.rate] 28)).alloc (.cells #[.int .i64 r.rate, .int .i64 r.death] 31)) := ((Below.refl _ w).alloc (Nat.le_refl _) _).alloc (by simp) _
  have HB := Lib.hid ((Blk.new w 28 #[.int .i64 b.first, .slice A n cap, .int .i64 b.rate]).alloc (.cells #[.int .i64 r.rate, .int .i64 r.death] 31))
  have HC := Lib.hid (Blk.new (w.alloc (.cells #[.int .i64 b.first, .slice A n cap, .int .i64 b.rate] 28)) 31 #[.int .i64 r.rate, .int .i64 r.death])
  simp only [World.size_alloc] at HC
  have HBT := Lib.hid (hB.past hbw); clear hB
  have HX := Lib.hid (hX.past hbw); clear hX
  have HL := Lib.hid hl; clear hl
  have HF := Lib.hid hf; clear hf
  have HRF := Lib.hid _hr; clear _hr
  unfold Scenario.row at *
  have hcB0 := Lib.hid (Blk.agg (cs := [.int .i64 b.first, .slice A n cap, .int .i64 b.rate]) HB.out 0 [.int .i64 b.first, .slice A n cap, .int .i64 b.rate] rfl)
  cases hp : portB b xs
  · have Q := Lib.hid (show reqIn b xs r i = (0, 1) by simp [reqIn, hp])
    go_enter Tryz.func78, Tryz.ntmps78
    go_wp2_with (refine wpList_load_agg rfl 28 _ rfl ⟨w.heap.size, 0, none⟩ rfl [.int .i64 b.first, .slice A n cap, .int .i64 b.rate] hcB0.out _ Tryz.underlying28 rfl Bas.size ?_)
    refine (spec_IsPortfolio_any b A n cap H m hcap xs _ HBT.out HL.out hm HX.out HF.out).mono ?_
    rw [hp]
    rintro e w1 ⟨rfl, hb1⟩
    have hb01 := hbw.trans (hb1.mono hbw.size)
    go_wp2
    go_ret2
    exact ⟨by rw [Q.out]; rfl, hb01⟩
  have HBK := Lib.hid (basis_ok (port_basis hp))
  have br0 := HBK.out.rate0; have br1 := HBK.out.rate1
  cases i
  · have Q := Lib.hid (show reqIn b xs r false = (0, 2) by simp [reqIn, hp])
    go_enter Tryz.func78, Tryz.ntmps78
    go_wp2_with (refine wpList_load_agg rfl 28 _ rfl ⟨w.heap.size, 0, none⟩ rfl [.int .i64 b.first, .slice A n cap, .int .i64 b.rate] hcB0.out _ Tryz.underlying28 rfl Bas.size ?_)
    refine (spec_IsPortfolio_any b A n cap H m hcap xs _ HBT.out HL.out hm HX.out HF.out).mono ?_
    rw [hp]
    rintro e w1 ⟨rfl, hb1⟩
    have hb01 := hbw.trans (hb1.mono hbw.size)
    go_wp2
    go_ret2
    exact ⟨by rw [Q.out]; rfl, hb01⟩
  obtain ⟨s12, h12⟩ : ∃ s, (inR r.rate (-200) 200 && inR r.death (-500) 500) = s := ⟨_, rfl⟩
  have HS12 := Lib.hid h12; clear h12
  cases s12
  · have Q := Lib.hid (show reqIn b xs r true = (0, 2) by have h := HS12.out; simp [reqIn, hp, scenB]; intro h1 h2; simp [h1, h2] at h)
    go_enter Tryz.func78, Tryz.ntmps78
    go_wp2_with (refine wpList_load_agg rfl 28 _ rfl ⟨w.heap.size, 0, none⟩ rfl [.int .i64 b.first, .slice A n cap, .int .i64 b.rate] hcB0.out _ Tryz.underlying28 rfl Bas.size ?_)
    refine (spec_IsPortfolio_any b A n cap H m hcap xs _ HBT.out HL.out hm HX.out HF.out).mono ?_
    rw [hp]
    rintro e w1 ⟨rfl, hb1⟩
    have hb01 := hbw.trans (hb1.mono hbw.size)
    have HB1 := Lib.hid (HB.out.below' hb1)
    have HC1 := Lib.hid (HC.out.below' hb1)
    have HBT1 := Lib.hid (HBT.out.past hb1)
    have HX1 := Lib.hid (HX.out.past hb1)
    have hcB1 := Lib.hid (Blk.agg (cs := [.int .i64 b.first, .slice A n cap, .int .i64 b.rate]) HB1.out 0 [.int .i64 b.first, .slice A n cap, .int .i64 b.rate] rfl)
    have hcC1 := Lib.hid (Blk.agg (cs := [.int .i64 r.rate, .int .i64 r.death]) HC1.out 0 [.int .i64 r.rate, .int .i64 r.death] rfl)
    have q0 : w1.cell? ⟨w.heap.size, 2, none⟩ = some (.int .i64 b.rate) := HB1.out.cell 2
    have q1 : w1.cell? ⟨w.heap.size + 1, 0, none⟩ = some (.int .i64 r.rate) := HC1.out.cell 0
    have q2 : w1.cell? ⟨w.heap.size + 1, 1, none⟩ = some (.int .i64 r.death) := HC1.out.cell 1
    go_wp2_with (go_at_call 90; fail)
    refine (spec_l21Scenario_any r _).mono ?_
    rw [HS12.out]
    rintro e w2 ⟨rfl, hbv⟩
    have hb02 := hb01.trans (hbv.mono hb01.size)
    have HB2 := Lib.hid (HB1.out.below' hbv)
    have HC2 := Lib.hid (HC1.out.below' hbv)
    clear q0 q1 q2
    have q0 : w2.cell? ⟨w.heap.size, 2, none⟩ = some (.int .i64 b.rate) := HB2.out.cell 2
    have q1 : w2.cell? ⟨w.heap.size + 1, 0, none⟩ = some (.int .i64 r.rate) := HC2.out.cell 0
    go_wp2
    go_ret2
    exact ⟨by rw [Q.out]; rfl, hb02⟩
  have hs2 := HS12.out
  simp only [Bool.and_eq_true, inR_true] at hs2
  obtain ⟨⟨t0, t1⟩, t2, t3⟩ := hs2
  cases h3 : inR (b.rate + r.rate) 0 200
  · have Q := Lib.hid (show reqIn b xs r true = (0, 2) by simp [reqIn, hp, scenB, h3])
    go_enter Tryz.func78, Tryz.ntmps78
    go_wp2_with (refine wpList_load_agg rfl 28 _ rfl ⟨w.heap.size, 0, none⟩ rfl [.int .i64 b.first, .slice A n cap, .int .i64 b.rate] hcB0.out _ Tryz.underlying28 rfl Bas.size ?_)
    refine (spec_IsPortfolio_any b A n cap H m hcap xs _ HBT.out HL.out hm HX.out HF.out).mono ?_
    rw [hp]
    rintro e w1 ⟨rfl, hb1⟩
    have hb01 := hbw.trans (hb1.mono hbw.size)
    have HB1 := Lib.hid (HB.out.below' hb1)
    have HC1 := Lib.hid (HC.out.below' hb1)
    have HBT1 := Lib.hid (HBT.out.past hb1)
    have HX1 := Lib.hid (HX.out.past hb1)
    have hcB1 := Lib.hid (Blk.agg (cs := [.int .i64 b.first, .slice A n cap, .int .i64 b.rate]) HB1.out 0 [.int .i64 b.first, .slice A n cap, .int .i64 b.rate] rfl)
    have hcC1 := Lib.hid (Blk.agg (cs := [.int .i64 r.rate, .int .i64 r.death]) HC1.out 0 [.int .i64 r.rate, .int .i64 r.death] rfl)
    have q0 : w1.cell? ⟨w.heap.size, 2, none⟩ = some (.int .i64 b.rate) := HB1.out.cell 2
    have q1 : w1.cell? ⟨w.heap.size + 1, 0, none⟩ = some (.int .i64 r.rate) := HC1.out.cell 0
    have q2 : w1.cell? ⟨w.heap.size + 1, 1, none⟩ = some (.int .i64 r.death) := HC1.out.cell 1
    go_wp2_with (go_at_call 90; fail)
    refine (spec_l21Scenario_any r _).mono ?_
    rw [HS12.out]
    rintro e w2 ⟨rfl, hbv⟩
    have hb02 := hb01.trans (hbv.mono hb01.size)
    have HB2 := Lib.hid (HB1.out.below' hbv)
    have HC2 := Lib.hid (HC1.out.below' hbv)
    clear q0 q1 q2
    have q0 : w2.cell? ⟨w.heap.size, 2, none⟩ = some (.int .i64 b.rate) := HB2.out.cell 2
    have q1 : w2.cell? ⟨w.heap.size + 1, 0, none⟩ = some (.int .i64 r.rate) := HC2.out.cell 0
    go_wp2_with (go_at_call 91; refine (spec_l04Rate_any _ _).mono ?_; rintro e w' ⟨rfl, rfl⟩)
    go_ret2
    exact ⟨by rw [Q.out]; rfl, hb02⟩
  have HSC := Lib.hid (show scenB b r = true by have h := HS12.out; simp only [Bool.and_eq_true] at h; simp [scenB, h.1, h.2, h3])
  obtain ⟨c, hc⟩ : ∃ c, chgB b r = c := ⟨_, rfl⟩
  have HCC := Lib.hid hc
  have HCT := Lib.hid (fun (w : World) (B n cp : Nat) (A : Option Addr) (h : Res B w 2 1 A n cp (intRows c.lives)) => (show BasT w A n cp c by rw [← hc] at h ⊢; exact chgB_basT HBK.out HSC.out h))
  cases hp2 : portB c xs
  · have Q := Lib.hid (show reqIn b xs r true = (0, 5) by simp [reqIn, hp, HSC.out, hc, hp2])
    have HP2 := Lib.hid hp2
    clear hc
    go_enter Tryz.func78, Tryz.ntmps78
    go_wp2_with (refine wpList_load_agg rfl 28 _ rfl ⟨w.heap.size, 0, none⟩ rfl [.int .i64 b.first, .slice A n cap, .int .i64 b.rate] hcB0.out _ Tryz.underlying28 rfl Bas.size ?_)
    refine (spec_IsPortfolio_any b A n cap H m hcap xs _ HBT.out HL.out hm HX.out HF.out).mono ?_
    rw [hp]
    rintro e w1 ⟨rfl, hb1⟩
    have hb01 := hbw.trans (hb1.mono hbw.size)
    have HB1 := Lib.hid (HB.out.below' hb1)
    have HC1 := Lib.hid (HC.out.below' hb1)
    have HBT1 := Lib.hid (HBT.out.past hb1)
    have HX1 := Lib.hid (HX.out.past hb1)
    have hcB1 := Lib.hid (Blk.agg (cs := [.int .i64 b.first, .slice A n cap, .int .i64 b.rate]) HB1.out 0 [.int .i64 b.first, .slice A n cap, .int .i64 b.rate] rfl)
    have hcC1 := Lib.hid (Blk.agg (cs := [.int .i64 r.rate, .int .i64 r.death]) HC1.out 0 [.int .i64 r.rate, .int .i64 r.death] rfl)
    have q0 : w1.cell? ⟨w.heap.size, 2, none⟩ = some (.int .i64 b.rate) := HB1.out.cell 2
    have q1 : w1.cell? ⟨w.heap.size + 1, 0, none⟩ = some (.int .i64 r.rate) := HC1.out.cell 0
    have q2 : w1.cell? ⟨w.heap.size + 1, 1, none⟩ = some (.int .i64 r.death) := HC1.out.cell 1
    go_wp2_with (go_at_call 90; fail)
    refine (spec_l21Scenario_any r _).mono ?_
    rw [HS12.out]
    rintro e w2 ⟨rfl, hbv⟩
    have hb02 := hb01.trans (hbv.mono hb01.size)
    have HB2 := Lib.hid (HB1.out.below' hbv)
    have HC2 := Lib.hid (HC1.out.below' hbv)
    clear q0 q1 q2
    have q0 : w2.cell? ⟨w.heap.size, 2, none⟩ = some (.int .i64 b.rate) := HB2.out.cell 2
    have q1 : w2.cell? ⟨w.heap.size + 1, 0, none⟩ = some (.int .i64 r.rate) := HC2.out.cell 0
    have hcB2 := Lib.hid (Blk.agg (cs := [.int .i64 b.first, .slice A n cap, .int .i64 b.rate]) HB2.out 0 [.int .i64 b.first, .slice A n cap, .int .i64 b.rate] rfl)
    have hcC2 := Lib.hid (Blk.agg (cs := [.int .i64 r.rate, .int .i64 r.death]) HC2.out 0 [.int .i64 r.rate, .int .i64 r.death] rfl)
    go_wp2_with (first | (go_at_call 91; refine (spec_l04Rate_any _ _).mono ?_; rintro e w' ⟨rfl, rfl⟩) | (refine wpList_load_agg rfl 28 _ rfl ⟨w.heap.size, 0, none⟩ rfl [.int .i64 b.first, .slice A n cap, .int .i64 b.rate] hcB2.out _ Tryz.underlying28 rfl Bas.size ?_) | (refine wpList_load_agg rfl 31 _ rfl ⟨w.heap.size + 1, 0, none⟩ rfl [.int .i64 r.rate, .int .i64 r.death] hcC2.out _ Tryz.underlying31 rfl Scenario.size ?_))
    refine (spec_l21Basis_c b c A n cap r _ (HBT1.out.past hbv) HBK.out HSC.out HCC.out).mono ?_
    rintro e w3 ⟨A', n', c', rfl, hR, hb3⟩
    have HR := Lib.hid hR; clear hR
    have hb2 := below_step hbv hb3
    clear q0 q1
    have hbn2 : Below w3.heap.size w3 (w3.alloc (.cells #[.int .i64 c.first, .slice A' n' c', .int .i64 c.rate] 28)) := (Below.refl _ _).alloc (Nat.le_refl _) _
    have hb12 := below_step hb2 hbn2
    have hb03 := hb01.trans (hb12.mono hb01.size)
    have HB3 := Lib.hid (HB1.out.below' hb12)
    have HD3 := Lib.hid (Blk.new w3 28 #[.int .i64 c.first, .slice A' n' c', .int .i64 c.rate])
    have HBT3 := Lib.hid (HBT1.out.past hb12)
    have HX3 := Lib.hid (HX1.out.past hb12)
    have HCT3 := Lib.hid (HCT.out _ _ _ _ _ (HR.out.past hbn2))
    have hcD3 := Lib.hid (Blk.agg (cs := [.int .i64 c.first, .slice A' n' c', .int .i64 c.rate]) HD3.out 0 [.int .i64 c.first, .slice A' n' c', .int .i64 c.rate] rfl)
    go_wp2_with (refine wpList_load_agg rfl 28 _ rfl ⟨w3.heap.size, 0, none⟩ rfl [.int .i64 c.first, .slice A' n' c', .int .i64 c.rate] hcD3.out _ Tryz.underlying28 rfl Bas.size ?_)
    refine (spec_IsPortfolio_any c A' n' c' H m hcap xs _ HCT3.out HL.out hm HX3.out HF.out).mono ?_
    rw [HP2.out]
    rintro e w4 ⟨rfl, hb4⟩
    have hb04 := hb03.trans (hb4.mono hb03.size)
    go_wp2
    go_ret2
    exact ⟨by rw [Q.out]; rfl, hb04⟩
  · have Q := Lib.hid (show reqIn b xs r true = ((reqL b c xs).sum, 0) by simp [reqIn, hp, HSC.out, hc, hp2])
    obtain ⟨h30, hh⟩ := port_hold hp
    obtain ⟨_, hh'⟩ := port_hold hp2
    have HS := Lib.hid (reqL_sums h30 hh hh').1
    have HH := Lib.hid hh; clear hh h30
    have HH' := Lib.hid hh'; clear hh'
    have HP2 := Lib.hid hp2
    clear hc
    go_enter Tryz.func78, Tryz.ntmps78
    go_wp2_with (refine wpList_load_agg rfl 28 _ rfl ⟨w.heap.size, 0, none⟩ rfl [.int .i64 b.first, .slice A n cap, .int .i64 b.rate] hcB0.out _ Tryz.underlying28 rfl Bas.size ?_)
    refine (spec_IsPortfolio_any b A n cap H m hcap xs _ HBT.out HL.out hm HX.out HF.out).mono ?_
    rw [hp]
    rintro e w1 ⟨rfl, hb1⟩
    have hb01 := hbw.trans (hb1.mono hbw.size)
    have HB1 := Lib.hid (HB.out.below' hb1)
    have HC1 := Lib.hid (HC.out.below' hb1)
    have HBT1 := Lib.hid (HBT.out.past hb1)
    have HX1 := Lib.hid (HX.out.past hb1)
    have hcB1 := Lib.hid (Blk.agg (cs := [.int .i64 b.first, .slice A n cap, .int .i64 b.rate]) HB1.out 0 [.int .i64 b.first, .slice A n cap, .int .i64 b.rate] rfl)
    have hcC1 := Lib.hid (Blk.agg (cs := [.int .i64 r.rate, .int .i64 r.death]) HC1.out 0 [.int .i64 r.rate, .int .i64 r.death] rfl)
    have q0 : w1.cell? ⟨w.heap.size, 2, none⟩ = some (.int .i64 b.rate) := HB1.out.cell 2
    have q1 : w1.cell? ⟨w.heap.size + 1, 0, none⟩ = some (.int .i64 r.rate) := HC1.out.cell 0
    have q2 : w1.cell? ⟨w.heap.size + 1, 1, none⟩ = some (.int .i64 r.death) := HC1.out.cell 1
    go_wp2_with (go_at_call 90; fail)
    refine (spec_l21Scenario_any r _).mono ?_
    rw [HS12.out]
    rintro e w2 ⟨rfl, hbv⟩
    have hb02 := hb01.trans (hbv.mono hb01.size)
    have HB2 := Lib.hid (HB1.out.below' hbv)
    have HC2 := Lib.hid (HC1.out.below' hbv)
    clear q0 q1 q2
    have q0 : w2.cell? ⟨w.heap.size, 2, none⟩ = some (.int .i64 b.rate) := HB2.out.cell 2
    have q1 : w2.cell? ⟨w.heap.size + 1, 0, none⟩ = some (.int .i64 r.rate) := HC2.out.cell 0
    have hcB2 := Lib.hid (Blk.agg (cs := [.int .i64 b.first, .slice A n cap, .int .i64 b.rate]) HB2.out 0 [.int .i64 b.first, .slice A n cap, .int .i64 b.rate] rfl)
    have hcC2 := Lib.hid (Blk.agg (cs := [.int .i64 r.rate, .int .i64 r.death]) HC2.out 0 [.int .i64 r.rate, .int .i64 r.death] rfl)
    go_wp2_with (first | (go_at_call 91; refine (spec_l04Rate_any _ _).mono ?_; rintro e w' ⟨rfl, rfl⟩) | (refine wpList_load_agg rfl 28 _ rfl ⟨w.heap.size, 0, none⟩ rfl [.int .i64 b.first, .slice A n cap, .int .i64 b.rate] hcB2.out _ Tryz.underlying28 rfl Bas.size ?_) | (refine wpList_load_agg rfl 31 _ rfl ⟨w.heap.size + 1, 0, none⟩ rfl [.int .i64 r.rate, .int .i64 r.death] hcC2.out _ Tryz.underlying31 rfl Scenario.size ?_))
    refine (spec_l21Basis_c b c A n cap r _ (HBT1.out.past hbv) HBK.out HSC.out HCC.out).mono ?_
    rintro e w3 ⟨A', n', c', rfl, hR, hb3⟩
    have HR := Lib.hid hR; clear hR
    have hb2 := below_step hbv hb3
    clear q0 q1
    have hbn2 : Below w3.heap.size w3 (w3.alloc (.cells #[.int .i64 c.first, .slice A' n' c', .int .i64 c.rate] 28)) := (Below.refl _ _).alloc (Nat.le_refl _) _
    have hb12 := below_step hb2 hbn2
    have hb03 := hb01.trans (hb12.mono hb01.size)
    have HB3 := Lib.hid (HB1.out.below' hb12)
    have HD3 := Lib.hid (Blk.new w3 28 #[.int .i64 c.first, .slice A' n' c', .int .i64 c.rate])
    have HBT3 := Lib.hid (HBT1.out.past hb12)
    have HX3 := Lib.hid (HX1.out.past hb12)
    have HCT3 := Lib.hid (HCT.out _ _ _ _ _ (HR.out.past hbn2))
    have hcD3 := Lib.hid (Blk.agg (cs := [.int .i64 c.first, .slice A' n' c', .int .i64 c.rate]) HD3.out 0 [.int .i64 c.first, .slice A' n' c', .int .i64 c.rate] rfl)
    go_wp2_with (refine wpList_load_agg rfl 28 _ rfl ⟨w3.heap.size, 0, none⟩ rfl [.int .i64 c.first, .slice A' n' c', .int .i64 c.rate] hcD3.out _ Tryz.underlying28 rfl Bas.size ?_)
    refine (spec_IsPortfolio_any c A' n' c' H m hcap xs _ HCT3.out HL.out hm HX3.out HF.out).mono ?_
    rw [HP2.out]
    rintro e w4 ⟨rfl, hb4⟩
    have hb04 := hb03.trans (hb4.mono hb03.size)
    have hb14 := below_step hb12 hb4
    have HB4 := Lib.hid (HB1.out.below' hb14)
    have HD4 := Lib.hid (HD3.out.below' hb4)
    have HBT4 := Lib.hid (HBT1.out.past hb14)
    have HCT4 := Lib.hid (HCT3.out.past hb4)
    have HX4 := Lib.hid (HX1.out.past hb14)
    go_wp2
    go_loopw [11, 12] (fun s i wr => ∃ k : Nat, k ≤ m ∧ i = .int .i64 k ∧ s = .int .i64 ((reqL b c xs).take k).sum ∧ Below w4.heap.size w4 wr) (fun _ i _ => m - (intOf i).toNat)
    case atStart => exact ⟨0, by omega, rfl, rfl, Below.refl _ _⟩
    case round =>
      obtain ⟨k, hk, rfl, rfl, hb⟩ := hrel
      by_cases hlt : k < m
      · obtain ⟨x, hx⟩ := get_of_lt (xs := xs) (k := k) (by rw [HL.out]; exact hlt)
        obtain ⟨ad, rfl, had, _, hc⟩ := (HX4.out.past hb).at' (holdingRows_get hx)
        have HE := Lib.hid (sum_snoc (reqL_get (b := b) (c := c) hx))
        have Hx := Lib.hid (HH.out x (List.mem_of_getElem? hx))
        have Hx' := Lib.hid (HH'.out x (List.mem_of_getElem? hx)); clear hx
        have hbd := HS.out (k + 1)
        rw [HE.out] at hbd
        obtain ⟨b1, b2⟩ := hbd
        obtain ⟨v1, v2⟩ := reqV_bound Hx.out Hx'.out
        have HPK := Lib.hid (req_part Hx.out Hx'.out)
        have HPOL := Lib.hid (hold_pol Hx.out)
        obtain ⟨⟨n0, n1⟩, HYc⟩ := And.intro (hold_ok Hx.out).1 (Lib.hid (hold_ok Hx'.out).2)
        have Hc := Lib.hid hc; clear hc
        have hk63 : (k : Int) < 1048576 := by omega
        have q1 := HPK.out.s0; have q2 := HPK.out.s1; have q3 := HPK.out.t0; have q4 := HPK.out.t1; have q5 := HPK.out.v0; have q6 := HPK.out.v1; have q7 := HPK.out.d0; have q8 := HPK.out.d1; have q9 := HPK.out.n0; have q10 := HPK.out.n1
        have HQ := Lib.hid (part_quo HPK.out)
        have HFB := Lib.hid (fwd_bound HPK.out)
        have HRV := Lib.hid (show reqV b c x = x.count * roundP (fwdP x.pol.sum (partT c x.pol x.year) (netP b x.pol) (partB c x.pol x.year) (partD c x.pol x.year)) from rfl)
        obtain ⟨F0, hF0⟩ : ∃ F, (fwdP x.pol.sum (partT c x.pol x.year) (netP b x.pol) (partB c x.pol x.year) (partD c x.pol x.year)) = F := ⟨_, rfl⟩
        rw [hF0] at HFB HRV
        have HFF0 := Lib.hid hF0; clear hF0
        obtain ⟨F1, F2⟩ := F0
        obtain ⟨⟨g1, g2⟩, g3, g4⟩ := HFB.out
        simp only at g1 g2 g3 g4
        have HFF := Lib.hid (show ((x.pol.sum * (partT c x.pol x.year) - netP b x.pol * (partB c x.pol x.year)) / (partD c x.pol x.year), (x.pol.sum * (partT c x.pol x.year) - netP b x.pol * (partB c x.pol x.year)) % (partD c x.pol x.year)) = (F1, F2) from HFF0.out)
        have HF1 := Lib.hid (congrArg Prod.fst HFF.out)
        have HF2 := Lib.hid (congrArg Prod.snd HFF.out)
        clear HFF HFF0 HFB
        by_cases hr : 0 < F2
        · have hmn : min 1 F2 = 1 := by omega
          have HRV2 : Hid (reqV b c x = x.count * max 0 (F1 + 1)) := Lib.hid (by rw [HRV.out]; unfold roundP; simp only; rw [if_pos hr])
          rw [HRV2.out] at b1 b2 v1 v2 HE
          have hbn : Below wr.heap.size wr (wr.alloc (.cells #[.int .i64 x.kind, .int .i64 x.age, .int .i64 x.years, .int .i64 x.sum, .int .i64 x.load] 88)) := (Below.refl _ wr).alloc (Nat.le_refl _) _
          have hbN := below_step hb hbn
          have HBn := Lib.hid (HB4.out.below' hbN)
          have HDn := Lib.hid (HD4.out.below' hbN)
          have HBTn := Lib.hid (HBT4.out.past hbN)
          have HCTn := Lib.hid (HCT4.out.past hbN)
          have HN := Lib.hid (Blk.new wr 88 #[.int .i64 x.kind, .int .i64 x.age, .int .i64 x.years, .int .i64 x.sum, .int .i64 x.load])
          have HcN := Lib.hid (fun j v hv => ((hbn.cell (by rw [block_of_add, block_of_add]; exact had)).trans (Hc.out j v hv) : (wr.alloc (.cells #[.int .i64 x.kind, .int .i64 x.age, .int .i64 x.years, .int .i64 x.sum, .int .i64 x.load] 88)).cell? ((ad.add (k * 7)).add j) = some v))
          have Hxc := Lib.hid (Holding.cells (x := x) (p := ad.add (k * 7)) HcN.out)
          have hcD := Lib.hid (Blk.agg_past (cs := [.int .i64 c.first, .slice A' n' c', .int .i64 c.rate]) HDn.out 0 [.int .i64 c.first, .slice A' n' c', .int .i64 c.rate] rfl)
          have hcP := Lib.hid (Blk.agg_past (cs := [.int .i64 x.kind, .int .i64 x.age, .int .i64 x.years, .int .i64 x.sum, .int .i64 x.load]) HN.out 0 [.int .i64 x.kind, .int .i64 x.age, .int .i64 x.years, .int .i64 x.sum, .int .i64 x.load] rfl)
          have hcXP := Lib.hid (show ∀ (j : Nat) (v : Value), ([.int .i64 x.kind, .int .i64 x.age, .int .i64 x.years, .int .i64 x.sum, .int .i64 x.load] : List Value)[j]? = some v → wr.cell? ((ad.add (k * 7)).add j) = some v from Holding.pol_cells Hc.out)
          go_wp2_with (refine wpList_load_agg rfl 88 _ rfl (ad.add (k * 7)) rfl [.int .i64 x.kind, .int .i64 x.age, .int .i64 x.years, .int .i64 x.sum, .int .i64 x.load] hcXP.out _ Tryz.underlying88 rfl Policy.size ?_)
          have g5 := fun y : Past (wr.alloc (.cells #[.int .i64 x.kind, .int .i64 x.age, .int .i64 x.years, .int .i64 x.sum, .int .i64 x.load] 88)) => Past.cell Hxc.out.2.2.2.2.2.1 y
          refine wp_region_past (by kernel_rfl) (by kernel_rfl) ?_
          repeat (first | (go_big_quiet_want; (first | (first | (refine quiet_load_agg 28 _ rfl ⟨w3.heap.size, 0, none⟩ rfl [.int .i64 c.first, .slice A' n' c', .int .i64 c.rate] hcD.out _ Tryz.underlying28 rfl Bas.size ?_) | (refine quiet_load_agg 88 _ rfl ⟨wr.heap.size, 0, none⟩ rfl [.int .i64 x.kind, .int .i64 x.age, .int .i64 x.years, .int .i64 x.sum, .int .i64 x.load] hcP.out _ Tryz.underlying88 rfl Policy.size ?_))); go_simp; go_big_quiet_on) | go_big_quiet_step ((go_at_call 142; exact past_call (spec_l11Parts_any c A' n' c' x.pol x.year _ (HCTn.out.at_past _) HYc.out))))
          refine wpQuiet_nil ?_
          rintro _ ⟨y, rfl⟩
          have HBy := Lib.hid (HBn.out.below' y.2)
          have HNy := Lib.hid (HN.out.below' y.2)
          have HBTy := Lib.hid (HBTn.out.past y.2)
          have hbY := below_step hbN y.2
          have e6y := (y.2.cell (p := ⟨(ad.add (k * 7)).block, (ad.add (k * 7)).off + 6, none⟩) (block_lt_of_cell Hxc.out.2.2.2.2.2.2)).trans Hxc.out.2.2.2.2.2.2
          have hcB := Lib.hid (Blk.agg_past (cs := [.int .i64 b.first, .slice A n cap, .int .i64 b.rate]) HBy.out 0 [.int .i64 b.first, .slice A n cap, .int .i64 b.rate] rfl)
          have hcP2 := Lib.hid (Blk.agg_past (cs := [.int .i64 x.kind, .int .i64 x.age, .int .i64 x.years, .int .i64 x.sum, .int .i64 x.load]) HNy.out 0 [.int .i64 x.kind, .int .i64 x.age, .int .i64 x.years, .int .i64 x.sum, .int .i64 x.load] rfl)
          have d3 := fun z : Past y.1 => Past.cell (p := ⟨wr.heap.size, 3, none⟩) (v := .int .i64 x.sum) (HNy.out.cell 3) z
          clear g5
          go_wp2
          refine wp_region_past (by kernel_rfl) (by kernel_rfl) ?_
          repeat (first | (go_big_quiet_want; (first | (first | (refine quiet_load_agg 28 _ rfl ⟨w.heap.size, 0, none⟩ rfl [.int .i64 b.first, .slice A n cap, .int .i64 b.rate] hcB.out _ Tryz.underlying28 rfl Bas.size ?_) | (refine quiet_load_agg 88 _ rfl ⟨wr.heap.size, 0, none⟩ rfl [.int .i64 x.kind, .int .i64 x.age, .int .i64 x.years, .int .i64 x.sum, .int .i64 x.load] hcP2.out _ Tryz.underlying88 rfl Policy.size ?_))); go_simp; go_big_quiet_on) | go_big_quiet_step ((first | (go_at_call 144; exact past_call (spec_l10Net_any b A n cap x.pol _ (HBTy.out.at_past _) (pol_ok HPOL.out))) | (go_at_call 143; exact past_same ((spec_l10Minus_any x.pol.sum (partT c x.pol x.year) (netP b x.pol) (partB c x.pol x.year) (partD c x.pol x.year) _ ⟨by omega, by omega⟩ ⟨by omega, by omega⟩ ⟨by omega, by omega⟩ ⟨by omega, by omega⟩ ⟨by omega, by omega⟩ (by have := HQ.out; omega) (by have := HQ.out; omega)).mono (by rw [HF1.out, HF2.out]; exact fun _ _ h => h))))))
          refine wpQuiet_nil ?_
          rintro _ ⟨z, rfl⟩
          have e6z := Past.cell e6y z
          have hbZ := below_step hbY z.2
          clear d3 e6y
          go_wp2
          go_roundw
          case rel => exact ⟨k + 1, by omega, by go_num, by rw [HE.out], hbZ⟩
          case measure => simp [intOf]; omega
        · have hr1 : F2 = 0 := by omega
          have HRV2 : Hid (reqV b c x = x.count * max 0 F1) := Lib.hid (by rw [HRV.out]; unfold roundP; simp only; rw [if_neg hr, Int.add_zero])
          rw [HRV2.out] at b1 b2 v1 v2 HE
          rw [hr1] at HF2
          clear hr1 g3 g4 hr
          have hmn0 : min (1 : Int) 0 = 0 := by omega
          have hbn : Below wr.heap.size wr (wr.alloc (.cells #[.int .i64 x.kind, .int .i64 x.age, .int .i64 x.years, .int .i64 x.sum, .int .i64 x.load] 88)) := (Below.refl _ wr).alloc (Nat.le_refl _) _
          have hbN := below_step hb hbn
          have HBn := Lib.hid (HB4.out.below' hbN)
          have HDn := Lib.hid (HD4.out.below' hbN)
          have HBTn := Lib.hid (HBT4.out.past hbN)
          have HCTn := Lib.hid (HCT4.out.past hbN)
          have HN := Lib.hid (Blk.new wr 88 #[.int .i64 x.kind, .int .i64 x.age, .int .i64 x.years, .int .i64 x.sum, .int .i64 x.load])
          have HcN := Lib.hid (fun j v hv => ((hbn.cell (by rw [block_of_add, block_of_add]; exact had)).trans (Hc.out j v hv) : (wr.alloc (.cells #[.int .i64 x.kind, .int .i64 x.age, .int .i64 x.years, .int .i64 x.sum, .int .i64 x.load] 88)).cell? ((ad.add (k * 7)).add j) = some v))
          have Hxc := Lib.hid (Holding.cells (x := x) (p := ad.add (k * 7)) HcN.out)
          have hcD := Lib.hid (Blk.agg_past (cs := [.int .i64 c.first, .slice A' n' c', .int .i64 c.rate]) HDn.out 0 [.int .i64 c.first, .slice A' n' c', .int .i64 c.rate] rfl)
          have hcP := Lib.hid (Blk.agg_past (cs := [.int .i64 x.kind, .int .i64 x.age, .int .i64 x.years, .int .i64 x.sum, .int .i64 x.load]) HN.out 0 [.int .i64 x.kind, .int .i64 x.age, .int .i64 x.years, .int .i64 x.sum, .int .i64 x.load] rfl)
          have hcXP := Lib.hid (show ∀ (j : Nat) (v : Value), ([.int .i64 x.kind, .int .i64 x.age, .int .i64 x.years, .int .i64 x.sum, .int .i64 x.load] : List Value)[j]? = some v → wr.cell? ((ad.add (k * 7)).add j) = some v from Holding.pol_cells Hc.out)
          go_wp2_with (refine wpList_load_agg rfl 88 _ rfl (ad.add (k * 7)) rfl [.int .i64 x.kind, .int .i64 x.age, .int .i64 x.years, .int .i64 x.sum, .int .i64 x.load] hcXP.out _ Tryz.underlying88 rfl Policy.size ?_)
          have g5 := fun y : Past (wr.alloc (.cells #[.int .i64 x.kind, .int .i64 x.age, .int .i64 x.years, .int .i64 x.sum, .int .i64 x.load] 88)) => Past.cell Hxc.out.2.2.2.2.2.1 y
          refine wp_region_past (by kernel_rfl) (by kernel_rfl) ?_
          repeat (first | (go_big_quiet_want; (first | (first | (refine quiet_load_agg 28 _ rfl ⟨w3.heap.size, 0, none⟩ rfl [.int .i64 c.first, .slice A' n' c', .int .i64 c.rate] hcD.out _ Tryz.underlying28 rfl Bas.size ?_) | (refine quiet_load_agg 88 _ rfl ⟨wr.heap.size, 0, none⟩ rfl [.int .i64 x.kind, .int .i64 x.age, .int .i64 x.years, .int .i64 x.sum, .int .i64 x.load] hcP.out _ Tryz.underlying88 rfl Policy.size ?_))); go_simp; go_big_quiet_on) | go_big_quiet_step ((go_at_call 142; exact past_call (spec_l11Parts_any c A' n' c' x.pol x.year _ (HCTn.out.at_past _) HYc.out))))
          refine wpQuiet_nil ?_
          rintro _ ⟨y, rfl⟩
          have HBy := Lib.hid (HBn.out.below' y.2)
          have HNy := Lib.hid (HN.out.below' y.2)
          have HBTy := Lib.hid (HBTn.out.past y.2)
          have hbY := below_step hbN y.2
          have e6y := (y.2.cell (p := ⟨(ad.add (k * 7)).block, (ad.add (k * 7)).off + 6, none⟩) (block_lt_of_cell Hxc.out.2.2.2.2.2.2)).trans Hxc.out.2.2.2.2.2.2
          have hcB := Lib.hid (Blk.agg_past (cs := [.int .i64 b.first, .slice A n cap, .int .i64 b.rate]) HBy.out 0 [.int .i64 b.first, .slice A n cap, .int .i64 b.rate] rfl)
          have hcP2 := Lib.hid (Blk.agg_past (cs := [.int .i64 x.kind, .int .i64 x.age, .int .i64 x.years, .int .i64 x.sum, .int .i64 x.load]) HNy.out 0 [.int .i64 x.kind, .int .i64 x.age, .int .i64 x.years, .int .i64 x.sum, .int .i64 x.load] rfl)
          have d3 := fun z : Past y.1 => Past.cell (p := ⟨wr.heap.size, 3, none⟩) (v := .int .i64 x.sum) (HNy.out.cell 3) z
          clear g5
          go_wp2
          refine wp_region_past (by kernel_rfl) (by kernel_rfl) ?_
          repeat (first | (go_big_quiet_want; (first | (first | (refine quiet_load_agg 28 _ rfl ⟨w.heap.size, 0, none⟩ rfl [.int .i64 b.first, .slice A n cap, .int .i64 b.rate] hcB.out _ Tryz.underlying28 rfl Bas.size ?_) | (refine quiet_load_agg 88 _ rfl ⟨wr.heap.size, 0, none⟩ rfl [.int .i64 x.kind, .int .i64 x.age, .int .i64 x.years, .int .i64 x.sum, .int .i64 x.load] hcP2.out _ Tryz.underlying88 rfl Policy.size ?_))); go_simp; go_big_quiet_on) | go_big_quiet_step ((first | (go_at_call 144; exact past_call (spec_l10Net_any b A n cap x.pol _ (HBTy.out.at_past _) (pol_ok HPOL.out))) | (go_at_call 143; exact past_same ((spec_l10Minus_any x.pol.sum (partT c x.pol x.year) (netP b x.pol) (partB c x.pol x.year) (partD c x.pol x.year) _ ⟨by omega, by omega⟩ ⟨by omega, by omega⟩ ⟨by omega, by omega⟩ ⟨by omega, by omega⟩ ⟨by omega, by omega⟩ (by have := HQ.out; omega) (by have := HQ.out; omega)).mono (by rw [HF1.out, HF2.out]; exact fun _ _ h => h))))))
          refine wpQuiet_nil ?_
          rintro _ ⟨z, rfl⟩
          have e6z := Past.cell e6y z
          have hbZ := below_step hbY z.2
          clear d3 e6y
          go_wp2
          go_roundw
          case rel => exact ⟨k + 1, by omega, by go_num, by rw [HE.out], hbZ⟩
          case measure => simp [intOf]; omega
      · have hkn : k = m := by omega
        subst hkn
        go_wp2
        go_ret2
        exact ⟨by rw [Q.out, take_all (by rw [reqL, List.length_map]; exact HL.out)]; rfl, hb04.trans (hb.mono hb04.size)⟩


set_option maxHeartbeats 2000000 in
theorem spec_RequiredReserve_any (b : Bas) (A : Option Addr) (n cap : Nat) (H : Option Addr) (m hcap : Nat) (xs : List Holding) (r : Scenario) (w : World) (hB : BasT w A n cap b) (hl : xs.length = m) (hm : m ≤ 1048576) (hX : Rd w w.heap.size H 7 (holdingRows xs)) (hf : ∀ x ∈ xs, x.fits) (_hr : r.fits) :
    Calls Tryz.prog 11 #[.agg #[.int .i64 b.first, .slice A n cap, .int .i64 b.rate], .slice H m hcap, .agg r.row.toArray] w fun e w' => e = .returned (.tuple #[.int .i64 (reqP b xs r).1, .int .i64 (reqP b xs r).2]) ∧ Below w.heap.size w w' := by
  have hbw : Below w.heap.size w ((w.alloc (.cells #[.int .i64 b.first, .slice A n cap, .int .i64 b.rate] 28)).alloc (.cells #[.int .i64 r.rate, .int .i64 r.death] 31)) := ((Below.refl _ w).alloc (Nat.le_refl _) _).alloc (by simp) _
  have HB := Lib.hid ((Blk.new w 28 #[.int .i64 b.first, .slice A n cap, .int .i64 b.rate]).alloc (.cells #[.int .i64 r.rate, .int .i64 r.death] 31))
  have HC := Lib.hid (Blk.new (w.alloc (.cells #[.int .i64 b.first, .slice A n cap, .int .i64 b.rate] 28)) 31 #[.int .i64 r.rate, .int .i64 r.death])
  simp only [World.size_alloc] at HC
  have HBT := Lib.hid (hB.past hbw); clear hB
  have HX := Lib.hid (hX.past hbw); clear hX
  have HL := Lib.hid hl; clear hl
  have HF := Lib.hid hf; clear hf
  have HRF := Lib.hid _hr; clear _hr
  unfold Scenario.row at *
  have hcB0 := Lib.hid (Blk.agg (cs := [.int .i64 b.first, .slice A n cap, .int .i64 b.rate]) HB.out 0 [.int .i64 b.first, .slice A n cap, .int .i64 b.rate] rfl)
  have hcC0 := Lib.hid (Blk.agg (cs := [.int .i64 r.rate, .int .i64 r.death]) HC.out 0 [.int .i64 r.rate, .int .i64 r.death] rfl)
  unfold reqP
  go_enter Tryz.func11, Tryz.ntmps11
  go_wp2_with (first | (refine wpList_load_agg rfl 28 _ rfl ⟨w.heap.size, 0, none⟩ rfl [.int .i64 b.first, .slice A n cap, .int .i64 b.rate] hcB0.out _ Tryz.underlying28 rfl Bas.size ?_) | (refine wpList_load_agg rfl 31 _ rfl ⟨w.heap.size + 1, 0, none⟩ rfl [.int .i64 r.rate, .int .i64 r.death] hcC0.out _ Tryz.underlying31 rfl Scenario.size ?_))
  refine (spec_l21Required_any b A n cap H m hcap xs r true _ HBT.out HL.out hm HX.out HF.out HRF.out).mono ?_
  rintro e w1 ⟨rfl, hb1⟩
  go_wp2
  go_ret2
  exact ⟨rfl, hbw.trans (hb1.mono hbw.size)⟩

end Go.Proofs.YtbjdbpdgacfcpaaGreat
end
