/- What assurances are priced by, premiums: the program's contracts. -/
import Derived.Test.YthcnkcoplgdlkaaPolI
import Derived.Deep.RegionHeld3
namespace Go.Proofs.Ythcnkcoplgdlkaa
open Go.RowKit Go.BigFrame

theorem PriceParts.size : (Try.prog.info? 114).map (·.size) = some 3 := by kernel_rfl
theorem ReserveParts.size : (Try.prog.info? 103).map (·.size) = some 3 := by kernel_rfl
theorem ben_top {b : Bas} {kind age n : Int} (h1 : b.first ≤ age) (hn : 0 ≤ n) : benT kind (mC b.lives b.rate (b.ix age)) (mC b.lives b.rate (b.ix (age + n))) (dC b.lives b.rate (b.ix (age + n))) = b.top kind age n ∧ benB kind (nC b.lives b.rate (b.ix age)) (nC b.lives b.rate (b.ix (age + n))) = b.base kind age n := by
  have e : b.ix (age + n) = b.ix age + n.toNat := by unfold Bas.ix; omega
  rw [e]
  exact ⟨rfl, rfl⟩

set_option maxHeartbeats 4000000 in
theorem impl_checkAssurance_any (b : Bas) (A : Option Addr) (n cap : Nat) (p : Policy) (w : World) (hB : BasT w A n cap b) (hp : polB b p = true) :
    Calls Try.prog 101 #[.agg #[.int .i64 b.first, .slice A n cap], .int .i64 b.rate, .int .i64 p.kind, .int .i64 p.age, .int .i64 p.years, .int .i64 p.sum] w fun e w' =>
      e = .returned (.tuple #[.agg #[.int .i64 (b.top p.kind p.age p.years), .int .i64 (b.d p.age), .int .i64 (b.base p.kind p.age p.years)], .int .i64 0]) ∧ Below w.heap.size w w' := by
  have hbw := boxes_below (w := w) (X := [.int .i64 b.first, .slice A n cap]) (Y := [.int .i64 0, .int .i64 0, .int .i64 0]) (tx := 30) (ty := 114)
  have HB := Lib.hid ((Blk.new w 30 #[.int .i64 b.first, .slice A n cap]).alloc (.cells #[.int .i64 0, .int .i64 0, .int .i64 0] 114))
  have HR := Lib.hid (Blk.new (w.alloc (.cells #[.int .i64 b.first, .slice A n cap] 30)) 114 #[.int .i64 0, .int .i64 0, .int .i64 0])
  rw [World.size_alloc] at HR
  have HBT := Lib.hid (hB.past hbw); clear hB
  have P := pol_ok hp
  have hpp := hp
  simp only [polB, basisB, Bool.and_eq_true] at hpp
  have HPP := Lib.hid hpp; clear hpp
  have a1 := P.age0; have a2 := P.age1; have y1 := P.yrs0; have y2 := P.yrs1; have e1 := P.end1; have f1 := P.tab.first0; have f2 := P.tab.first1
  have hd := d_age P
  have HPO := Lib.hid P; clear P
  have QB := Lib.hid (ben_top (b := b) (kind := p.kind) (age := p.age) (n := p.years) a1 y1)
  obtain ⟨k, hk⟩ := Int.eq_ofNat_of_zero_le (show 0 ≤ p.age - b.first by omega)
  obtain ⟨m, hm⟩ := Int.eq_ofNat_of_zero_le (show 0 ≤ p.age + p.years - b.first by omega)
  have HE0 := Lib.hid (show b.ix p.age = k by unfold Bas.ix; omega)
  have HE1 := Lib.hid (show b.ix (p.age + p.years) = m by unfold Bas.ix; omega)
  have QD := Lib.hid (show b.d p.age = dC b.lives b.rate k by unfold Bas.d; rw [HE0.out])
  rw [HE0.out, HE1.out] at QB
  rw [QD.out] at hd
  have hkt : k < (151 - b.first).toNat := by omega
  have hmt : m < (151 - b.first).toNat := by omega
  have htop : (((151 - b.first).toNat : Nat) : Int) = 151 - b.first := by omega
  obtain ⟨top, htp⟩ : ∃ top, (151 - b.first).toNat = top := ⟨_, rfl⟩
  rw [htp] at hkt hmt htop
  have HTP := Lib.hid htp; clear htp
  have hki : (k : Int) < (top : Int) := by omega
  have hmi : (m : Int) < (top : Int) := by omega
  clear htop
  go_enter Try.func101, Try.ntmps101
  go_wp2_with fail
  refine (impl_IsLifeTable_any b.first A n cap b.lives _ HBT.out.lives HBT.out.cap HBT.out.first).mono ?_
  rw [HPP.out.1.1]
  rintro e w1 ⟨rfl, hb1⟩
  have HB1 := Lib.hid (HB.out.below' hb1)
  have HR1 := Lib.hid (HR.out.below' hb1)
  have HBT1 := Lib.hid (HBT.out.past hb1)
  have hbw1 := hbw.trans (hb1.mono hbw.size)
  have hcT := Lib.hid (Blk.agg (cs := [.int .i64 b.first, .slice A n cap]) HB1.out 0 [.int .i64 b.first, .slice A n cap] rfl)
  go_wp2_with (refine wpList_load_agg rfl 30 _ rfl ⟨w.heap.size, 0, none⟩ rfl [.int .i64 b.first, .slice A n cap] hcT.out _ Try.underlying30 rfl Tab.size ?_)
  clear hcT
  refine (impl_isAssurance_any b A n cap p.kind p.age p.years p.sum _ ⟨by omega, by omega⟩).mono ?_
  rw [HPP.out.2.1]
  rintro e w2 ⟨rfl, hb2⟩
  have HB2 := Lib.hid (HB1.out.below' hb2)
  have HR2 := Lib.hid (HR1.out.below' hb2)
  have HBT2 := Lib.hid (HBT1.out.past hb2)
  have hbw2 := hbw1.trans (hb2.mono hbw1.size)
  have hcT := Lib.hid (Blk.agg (cs := [.int .i64 b.first, .slice A n cap]) HB2.out 0 [.int .i64 b.first, .slice A n cap] rfl)
  go_wp2_with (refine wpList_load_agg rfl 30 _ rfl ⟨w.heap.size, 0, none⟩ rfl [.int .i64 b.first, .slice A n cap] hcT.out _ Try.underlying30 rfl Tab.size ?_)
  clear hcT
  refine (impl_columnsOf_any b.first A n cap b.lives b.rate _ HBT2.out.lives HPO.out.tab ⟨HPO.out.rate0, HPO.out.rate1⟩).mono ?_
  rw [HTP.out]
  rintro e w3 ⟨g, rfl, hL, hb3⟩
  have HB3 := Lib.hid (HB2.out.below' hb3)
  have HR3 := Lib.hid (HR2.out.below' hb3)
  have hbw3 := hbw2.trans (hb3.mono hbw2.size)
  obtain ⟨ad, had0, hadB, _, hc1⟩ := hL.at' (colRows_get (xs := b.lives) (rate := b.rate) hkt)
  obtain ⟨ad', had1, _, _, hc2⟩ := hL.at' (colRows_get (xs := b.lives) (rate := b.rate) hmt)
  obtain rfl : ad' = ad := by rw [had0] at had1; injection had1 with had1; exact had1.symm
  rw [had0] at *
  have b0 : w3.cell? ⟨w.heap.size, 0, none⟩ = some (.int .i64 b.first) := HB3.out.cell 0
  have u0 : w3.cell? (ad'.add (k * 4)) = some (.int .i64 (dC b.lives b.rate k)) := by have := hc1 0 _ rfl; rwa [Addr.add_zero'] at this
  have u1 : w3.cell? ⟨(ad'.add (k * 4)).block, (ad'.add (k * 4)).off + 1, none⟩ = some (.int .i64 (nC b.lives b.rate k)) := hc1 1 _ rfl
  have u2 : w3.cell? ⟨(ad'.add (k * 4)).block, (ad'.add (k * 4)).off + 2, none⟩ = some (.int .i64 (cC b.lives b.rate k)) := hc1 2 _ rfl
  have u3 : w3.cell? ⟨(ad'.add (k * 4)).block, (ad'.add (k * 4)).off + 3, none⟩ = some (.int .i64 (mC b.lives b.rate k)) := hc1 3 _ rfl
  have v0 : w3.cell? (ad'.add (m * 4)) = some (.int .i64 (dC b.lives b.rate m)) := by have := hc2 0 _ rfl; rwa [Addr.add_zero'] at this
  have v1 : w3.cell? ⟨(ad'.add (m * 4)).block, (ad'.add (m * 4)).off + 1, none⟩ = some (.int .i64 (nC b.lives b.rate m)) := hc2 1 _ rfl
  have v2 : w3.cell? ⟨(ad'.add (m * 4)).block, (ad'.add (m * 4)).off + 2, none⟩ = some (.int .i64 (cC b.lives b.rate m)) := hc2 2 _ rfl
  have v3 : w3.cell? ⟨(ad'.add (m * 4)).block, (ad'.add (m * 4)).off + 3, none⟩ = some (.int .i64 (mC b.lives b.rate m)) := hc2 3 _ rfl
  clear hc1 hc2
  have hs3 : w.heap.size < w3.heap.size := HB3.out.lt
  have hs4 : w.heap.size + 1 < w3.heap.size := HR3.out.lt
  have hs5 : (ad'.add (k * 4)).block < w3.heap.size := by rw [block_of_add]; exact hadB
  have hs6 : (ad'.add (m * 4)).block < w3.heap.size := by rw [block_of_add]; exact hadB
  have hk0 : 0 ≤ (k : Int) := by omega
  have hm0 : 0 ≤ (m : Int) := by omega
  go_wp2
  go_region
  · obtain ⟨w4, hw4⟩ : ∃ w4, ((w3.alloc (.cells #[.int .i64 (dC b.lives b.rate k), .int .i64 (nC b.lives b.rate k), .int .i64 (cC b.lives b.rate k), .int .i64 (mC b.lives b.rate k)] 168)).alloc (.cells #[.int .i64 (dC b.lives b.rate m), .int .i64 (nC b.lives b.rate m), .int .i64 (cC b.lives b.rate m), .int .i64 (mC b.lives b.rate m)] 168)).drew = w4 := ⟨_, rfl⟩
    have Hf := Lib.hid (((Blk.new w3 168 #[.int .i64 (dC b.lives b.rate k), .int .i64 (nC b.lives b.rate k), .int .i64 (cC b.lives b.rate k), .int .i64 (mC b.lives b.rate k)]).alloc (.cells #[.int .i64 (dC b.lives b.rate m), .int .i64 (nC b.lives b.rate m), .int .i64 (cC b.lives b.rate m), .int .i64 (mC b.lives b.rate m)] 168)).drew)
    have Hs := Lib.hid ((Blk.new (w3.alloc (.cells #[.int .i64 (dC b.lives b.rate k), .int .i64 (nC b.lives b.rate k), .int .i64 (cC b.lives b.rate k), .int .i64 (mC b.lives b.rate k)] 168)) 168 #[.int .i64 (dC b.lives b.rate m), .int .i64 (nC b.lives b.rate m), .int .i64 (cC b.lives b.rate m), .int .i64 (mC b.lives b.rate m)]).drew)
    rw [World.size_alloc] at Hs
    have HR4 := Lib.hid (((HR3.out.alloc (.cells #[.int .i64 (dC b.lives b.rate k), .int .i64 (nC b.lives b.rate k), .int .i64 (cC b.lives b.rate k), .int .i64 (mC b.lives b.rate k)] 168)).alloc (.cells #[.int .i64 (dC b.lives b.rate m), .int .i64 (nC b.lives b.rate m), .int .i64 (cC b.lives b.rate m), .int .i64 (mC b.lives b.rate m)] 168)).drew)
    have hb4 : Below w3.heap.size w3 w4 := by rw [← hw4]; exact (((Below.refl _ w3).alloc (Nat.le_refl _) _).alloc (by simp) _).drew
    rw [hw4] at Hf Hs HR4
    rw [hw4]
    clear hw4 u0 u1 u2 u3 v0 v1 v2 v3 b0
    have n0 : w4.cell? ⟨w3.heap.size, 0, none⟩ = some (.int .i64 (dC b.lives b.rate k)) := Hf.out.cell 0
    have hcN := Lib.hid (Blk.agg (cs := [.int .i64 (dC b.lives b.rate k), .int .i64 (nC b.lives b.rate k), .int .i64 (cC b.lives b.rate k), .int .i64 (mC b.lives b.rate k)]) Hf.out 0 [.int .i64 (dC b.lives b.rate k), .int .i64 (nC b.lives b.rate k), .int .i64 (cC b.lives b.rate k), .int .i64 (mC b.lives b.rate k)] rfl)
    have hcL := Lib.hid (Blk.agg (cs := [.int .i64 (dC b.lives b.rate m), .int .i64 (nC b.lives b.rate m), .int .i64 (cC b.lives b.rate m), .int .i64 (mC b.lives b.rate m)]) Hs.out 0 [.int .i64 (dC b.lives b.rate m), .int .i64 (nC b.lives b.rate m), .int .i64 (cC b.lives b.rate m), .int .i64 (mC b.lives b.rate m)] rfl)
    have hdz : ¬ dC b.lives b.rate k = 0 := by omega
    have z1 := nC_bound HPO.out.tab HPO.out.rate0 k; have z2 := mC_bound HPO.out.tab HPO.out.rate0 k; have z3 := nC_bound HPO.out.tab HPO.out.rate0 m; have z4 := mC_bound HPO.out.tab HPO.out.rate0 m; have z5 := dC_bound HPO.out.tab HPO.out.rate0 k; have z6 := dC_bound HPO.out.tab HPO.out.rate0 m
    go_wp2_with (first | (refine wpList_load_agg rfl 168 _ rfl ⟨w3.heap.size, 0, none⟩ rfl [.int .i64 (dC b.lives b.rate k), .int .i64 (nC b.lives b.rate k), .int .i64 (cC b.lives b.rate k), .int .i64 (mC b.lives b.rate k)] hcN.out _ Try.underlying168 rfl Columns.size ?_) | (refine wpList_load_agg rfl 168 _ rfl ⟨(w3.heap.size + 1), 0, none⟩ rfl [.int .i64 (dC b.lives b.rate m), .int .i64 (nC b.lives b.rate m), .int .i64 (cC b.lives b.rate m), .int .i64 (mC b.lives b.rate m)] hcL.out _ Try.underlying168 rfl Columns.size ?_))
    refine (impl_benefits_any p.kind (dC b.lives b.rate k) (nC b.lives b.rate k) (cC b.lives b.rate k) (mC b.lives b.rate k) (dC b.lives b.rate m) (nC b.lives b.rate m) (cC b.lives b.rate m) (mC b.lives b.rate m) _ ⟨by omega, by omega⟩ ⟨by omega, by omega⟩ ⟨by omega, by omega⟩ ⟨by omega, by omega⟩ ⟨by omega, by omega⟩).mono ?_
    rw [QB.out.1, QB.out.2]
    rintro e w5 ⟨rfl, hb5⟩
    have HN5 := Lib.hid (Hf.out.below' hb5)
    have HR5 := Lib.hid (HR4.out.below' hb5)
    have n5 : w5.cell? ⟨w3.heap.size, 0, none⟩ = some (.int .i64 (dC b.lives b.rate k)) := HN5.out.cell 0
    clear n0 hcN hcL
    have H1c : Hid (∀ v ∈ ([.int .i64 (b.top p.kind p.age p.years), .int .i64 (dC b.lives b.rate k), .int .i64 (b.base p.kind p.age p.years)] : List Value), v.oneCell' = true) := Lib.hid (by simp [Value.oneCell'])
    go_wp2_with (refine wpList_store_agg rfl 114 _ _ rfl (w.heap.size + 1) 0 [.int .i64 (b.top p.kind p.age p.years), .int .i64 (dC b.lives b.rate k), .int .i64 (b.base p.kind p.age p.years)] rfl rfl 114 #[.int .i64 0, .int .i64 0, .int .i64 0] HR5.out PriceParts.size (by simp) H1c.out ?_)
    intro w6 hR6 hg6 _
    have hR6' : Blk w6 (w.heap.size + 1) 114 #[.int .i64 (b.top p.kind p.age p.years), .int .i64 (dC b.lives b.rate k), .int .i64 (b.base p.kind p.age p.years)] := hR6
    have r0 : w6.cell? ⟨w.heap.size + 1, 0, none⟩ = some (.int .i64 (b.top p.kind p.age p.years)) := hR6'.cell 0
    have r1 : w6.cell? ⟨w.heap.size + 1, 1, none⟩ = some (.int .i64 (dC b.lives b.rate k)) := hR6'.cell 1
    have r2 : w6.cell? ⟨w.heap.size + 1, 2, none⟩ = some (.int .i64 (b.base p.kind p.age p.years)) := hR6'.cell 2
    go_wp2
    have hx : Below w.heap.size w w5 := hbw3.trans ((hb4.mono hbw3.size).trans (hb5.mono (Nat.le_trans hbw3.size hb4.size)))
    refine bodyPost_ret (v := .tuple #[.agg #[.int .i64 (b.top p.kind p.age p.years), .int .i64 (dC b.lives b.rate k), .int .i64 (b.base p.kind p.age p.years)], .int .i64 0]) (by simp [results, Try.results101, go_sem, r0, r1, r2]) rfl ⟨by rw [QD.out], hx.grown hg6 hx.size (fun k hk => by injection hk with hk; omega)⟩
  · obtain ⟨w4, hw4⟩ : ∃ w4, ((w3.alloc (.cells #[.int .i64 (dC b.lives b.rate m), .int .i64 (nC b.lives b.rate m), .int .i64 (cC b.lives b.rate m), .int .i64 (mC b.lives b.rate m)] 168)).alloc (.cells #[.int .i64 (dC b.lives b.rate k), .int .i64 (nC b.lives b.rate k), .int .i64 (cC b.lives b.rate k), .int .i64 (mC b.lives b.rate k)] 168)).drew = w4 := ⟨_, rfl⟩
    have Hf := Lib.hid (((Blk.new w3 168 #[.int .i64 (dC b.lives b.rate m), .int .i64 (nC b.lives b.rate m), .int .i64 (cC b.lives b.rate m), .int .i64 (mC b.lives b.rate m)]).alloc (.cells #[.int .i64 (dC b.lives b.rate k), .int .i64 (nC b.lives b.rate k), .int .i64 (cC b.lives b.rate k), .int .i64 (mC b.lives b.rate k)] 168)).drew)
    have Hs := Lib.hid ((Blk.new (w3.alloc (.cells #[.int .i64 (dC b.lives b.rate m), .int .i64 (nC b.lives b.rate m), .int .i64 (cC b.lives b.rate m), .int .i64 (mC b.lives b.rate m)] 168)) 168 #[.int .i64 (dC b.lives b.rate k), .int .i64 (nC b.lives b.rate k), .int .i64 (cC b.lives b.rate k), .int .i64 (mC b.lives b.rate k)]).drew)
    rw [World.size_alloc] at Hs
    have HR4 := Lib.hid (((HR3.out.alloc (.cells #[.int .i64 (dC b.lives b.rate m), .int .i64 (nC b.lives b.rate m), .int .i64 (cC b.lives b.rate m), .int .i64 (mC b.lives b.rate m)] 168)).alloc (.cells #[.int .i64 (dC b.lives b.rate k), .int .i64 (nC b.lives b.rate k), .int .i64 (cC b.lives b.rate k), .int .i64 (mC b.lives b.rate k)] 168)).drew)
    have hb4 : Below w3.heap.size w3 w4 := by rw [← hw4]; exact (((Below.refl _ w3).alloc (Nat.le_refl _) _).alloc (by simp) _).drew
    rw [hw4] at Hf Hs HR4
    rw [hw4]
    clear hw4 u0 u1 u2 u3 v0 v1 v2 v3 b0
    have n0 : w4.cell? ⟨(w3.heap.size + 1), 0, none⟩ = some (.int .i64 (dC b.lives b.rate k)) := Hs.out.cell 0
    have hcN := Lib.hid (Blk.agg (cs := [.int .i64 (dC b.lives b.rate k), .int .i64 (nC b.lives b.rate k), .int .i64 (cC b.lives b.rate k), .int .i64 (mC b.lives b.rate k)]) Hs.out 0 [.int .i64 (dC b.lives b.rate k), .int .i64 (nC b.lives b.rate k), .int .i64 (cC b.lives b.rate k), .int .i64 (mC b.lives b.rate k)] rfl)
    have hcL := Lib.hid (Blk.agg (cs := [.int .i64 (dC b.lives b.rate m), .int .i64 (nC b.lives b.rate m), .int .i64 (cC b.lives b.rate m), .int .i64 (mC b.lives b.rate m)]) Hf.out 0 [.int .i64 (dC b.lives b.rate m), .int .i64 (nC b.lives b.rate m), .int .i64 (cC b.lives b.rate m), .int .i64 (mC b.lives b.rate m)] rfl)
    have hdz : ¬ dC b.lives b.rate k = 0 := by omega
    have z1 := nC_bound HPO.out.tab HPO.out.rate0 k; have z2 := mC_bound HPO.out.tab HPO.out.rate0 k; have z3 := nC_bound HPO.out.tab HPO.out.rate0 m; have z4 := mC_bound HPO.out.tab HPO.out.rate0 m; have z5 := dC_bound HPO.out.tab HPO.out.rate0 k; have z6 := dC_bound HPO.out.tab HPO.out.rate0 m
    go_wp2_with (first | (refine wpList_load_agg rfl 168 _ rfl ⟨(w3.heap.size + 1), 0, none⟩ rfl [.int .i64 (dC b.lives b.rate k), .int .i64 (nC b.lives b.rate k), .int .i64 (cC b.lives b.rate k), .int .i64 (mC b.lives b.rate k)] hcN.out _ Try.underlying168 rfl Columns.size ?_) | (refine wpList_load_agg rfl 168 _ rfl ⟨w3.heap.size, 0, none⟩ rfl [.int .i64 (dC b.lives b.rate m), .int .i64 (nC b.lives b.rate m), .int .i64 (cC b.lives b.rate m), .int .i64 (mC b.lives b.rate m)] hcL.out _ Try.underlying168 rfl Columns.size ?_))
    refine (impl_benefits_any p.kind (dC b.lives b.rate k) (nC b.lives b.rate k) (cC b.lives b.rate k) (mC b.lives b.rate k) (dC b.lives b.rate m) (nC b.lives b.rate m) (cC b.lives b.rate m) (mC b.lives b.rate m) _ ⟨by omega, by omega⟩ ⟨by omega, by omega⟩ ⟨by omega, by omega⟩ ⟨by omega, by omega⟩ ⟨by omega, by omega⟩).mono ?_
    rw [QB.out.1, QB.out.2]
    rintro e w5 ⟨rfl, hb5⟩
    have HN5 := Lib.hid (Hs.out.below' hb5)
    have HR5 := Lib.hid (HR4.out.below' hb5)
    have n5 : w5.cell? ⟨(w3.heap.size + 1), 0, none⟩ = some (.int .i64 (dC b.lives b.rate k)) := HN5.out.cell 0
    clear n0 hcN hcL
    have H1c : Hid (∀ v ∈ ([.int .i64 (b.top p.kind p.age p.years), .int .i64 (dC b.lives b.rate k), .int .i64 (b.base p.kind p.age p.years)] : List Value), v.oneCell' = true) := Lib.hid (by simp [Value.oneCell'])
    go_wp2_with (refine wpList_store_agg rfl 114 _ _ rfl (w.heap.size + 1) 0 [.int .i64 (b.top p.kind p.age p.years), .int .i64 (dC b.lives b.rate k), .int .i64 (b.base p.kind p.age p.years)] rfl rfl 114 #[.int .i64 0, .int .i64 0, .int .i64 0] HR5.out PriceParts.size (by simp) H1c.out ?_)
    intro w6 hR6 hg6 _
    have hR6' : Blk w6 (w.heap.size + 1) 114 #[.int .i64 (b.top p.kind p.age p.years), .int .i64 (dC b.lives b.rate k), .int .i64 (b.base p.kind p.age p.years)] := hR6
    have r0 : w6.cell? ⟨w.heap.size + 1, 0, none⟩ = some (.int .i64 (b.top p.kind p.age p.years)) := hR6'.cell 0
    have r1 : w6.cell? ⟨w.heap.size + 1, 1, none⟩ = some (.int .i64 (dC b.lives b.rate k)) := hR6'.cell 1
    have r2 : w6.cell? ⟨w.heap.size + 1, 2, none⟩ = some (.int .i64 (b.base p.kind p.age p.years)) := hR6'.cell 2
    go_wp2
    have hx : Below w.heap.size w w5 := hbw3.trans ((hb4.mono hbw3.size).trans (hb5.mono (Nat.le_trans hbw3.size hb4.size)))
    refine bodyPost_ret (v := .tuple #[.agg #[.int .i64 (b.top p.kind p.age p.years), .int .i64 (dC b.lives b.rate k), .int .i64 (b.base p.kind p.age p.years)], .int .i64 0]) (by simp [results, Try.results101, go_sem, r0, r1, r2]) rfl ⟨by rw [QD.out], hx.grown hg6 hx.size (fun k hk => by injection hk with hk; omega)⟩

end Go.Proofs.Ythcnkcoplgdlkaa
