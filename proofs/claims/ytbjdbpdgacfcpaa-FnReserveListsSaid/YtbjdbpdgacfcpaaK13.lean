/- Parts of a proof, one after another: Price, RlP, Likes, DrawP7, Held, LikesT. No condition. -/
import Derived.Test.YtbjdbpdgacfcpaaK0
import Derived.Test.YtbjdbpdgacfcpaaK1
import Derived.Test.YtbjdbpdgacfcpaaK2
import Derived.Test.YtbjdbpdgacfcpaaK8
import Derived.Test.YtbjdbpdgacfcpaaK9
import Derived.Test.YtbjdbpdgacfcpaaK12
/- Prices of assurances that need be no policies: the program's contracts. -/
section
namespace Go.Proofs.Ytbjdbpdgacfcpaa
open Go.RowKit Go.BigFrame

structure AssOk (b : Bas) (kind age n sum : Int) : Prop where
  kind0 : 0 ≤ kind
  kind1 : kind ≤ 3
  age0 : b.first ≤ age
  age1 : age ≤ 150
  sum0 : 1 ≤ sum
  sum1 : sum ≤ 100000000
  yrs0 : 0 ≤ n
  yrs1 : n ≤ 120
  end1 : age + n ≤ 150
  zero : n = 0 ↔ kind = 0
theorem assur_ok {b : Bas} {kind age n sum : Int} (h : assurB b kind age n sum = true) : AssOk b kind age n sum := by
  simp only [assurB, Bool.and_eq_true, inR_true, decide_eq_true_eq, beq_iff_eq, decide_eq_decide] at h
  obtain ⟨⟨k0, k1⟩, _, ⟨a0, a1⟩, ⟨s0, s1⟩, ⟨y0, y1⟩, e1, z⟩ := h
  exact ⟨k0, k1, a0, a1, s0, s1, y0, y1, e1, z⟩
theorem assur_mk {b : Bas} {kind age n sum : Int} (hr : 0 ≤ b.rate ∧ b.rate ≤ 200) (h : AssOk b kind age n sum) : assurB b kind age n sum = true := by
  simp only [assurB, Bool.and_eq_true, inR_true, decide_eq_true_eq, beq_iff_eq, decide_eq_decide]
  exact ⟨⟨h.kind0, h.kind1⟩, hr, ⟨h.age0, h.age1⟩, ⟨h.sum0, h.sum1⟩, ⟨h.yrs0, h.yrs1⟩, h.end1, h.zero⟩
set_option maxHeartbeats 4000000 in
theorem impl_checkAssurance_at (b : Bas) (A : Option Addr) (n cap : Nat) (p : Policy) (w : World) (hB : BasT w A n cap b) (hbs : basisB b = true) (has : assurB b p.kind p.age p.years p.sum = true) (hdd : b.d p.age ≠ 0) :
    Calls Try.prog 67 #[.agg #[.int .i64 b.first, .slice A n cap], .int .i64 b.rate, .int .i64 p.kind, .int .i64 p.age, .int .i64 p.years, .int .i64 p.sum] w fun e w' =>
      e = .returned (.tuple #[.agg #[.int .i64 (b.top p.kind p.age p.years), .int .i64 (b.d p.age), .int .i64 (b.base p.kind p.age p.years)], .int .i64 0]) ∧ Below w.heap.size w w' := by
  have hbw := boxes_below (w := w) (X := [.int .i64 b.first, .slice A n cap]) (Y := [.int .i64 0, .int .i64 0, .int .i64 0]) (tx := 26) (ty := 73)
  have HB := Lib.hid ((Blk.new w 26 #[.int .i64 b.first, .slice A n cap]).alloc (.cells #[.int .i64 0, .int .i64 0, .int .i64 0] 73))
  have HR := Lib.hid (Blk.new (w.alloc (.cells #[.int .i64 b.first, .slice A n cap] 26)) 73 #[.int .i64 0, .int .i64 0, .int .i64 0])
  rw [World.size_alloc] at HR
  have HBT := Lib.hid (hB.past hbw); clear hB
  have B := basis_ok hbs
  have Q := assur_ok has
  have hpp : (tableB b.first b.lives = true ∧ inR b.rate 0 200 = true) ∧ assurB b p.kind p.age p.years p.sum = true ∧ True := ⟨by simpa [basisB, Bool.and_eq_true] using hbs, has, trivial⟩
  have HPP := Lib.hid hpp; clear hpp
  have a1 := Q.age0; have a2 := Q.age1; have y1 := Q.yrs0; have y2 := Q.yrs1; have e1 := Q.end1; have f1 := B.tab.first0; have f2 := B.tab.first1
  have hd : 1 ≤ b.d p.age := by have := d_bound B p.age; omega
  have HPO := Lib.hid B; clear B Q hdd has hbs
  have QB := Lib.hid (ben_top (b := b) (kind := p.kind) (age := p.age) (n := p.years) a1 y1)
  obtain ⟨k, hk⟩ := Int.eq_ofNat_of_zero_le (show 0 ≤ p.age - b.first by omega)
  obtain ⟨m, hm⟩ := Int.eq_ofNat_of_zero_le (show 0 ≤ p.age + p.years - b.first by omega)
  have HE0 := Lib.hid (show b.ix p.age = k by unfold Bas.ix; omega)
  have HE1 := Lib.hid (show b.ix (p.age + p.years) = m by unfold Bas.ix; omega)
  have QD := Lib.hid (show b.d p.age = dC b.lives b.rate k by unfold Bas.d; rw [HE0.out])
  rw [HE0.out, HE1.out] at QB
  rw [QD.out] at hd
  have hkt : k < (151 - b.first).toNat := by omega
  have hmt : m < (151 - b.first).toNat := by omega
  have htop : (((151 - b.first).toNat : Nat) : Int) = 151 - b.first := by omega
  obtain ⟨top, htp⟩ : ∃ top, (151 - b.first).toNat = top := ⟨_, rfl⟩
  rw [htp] at hkt hmt htop
  have HTP := Lib.hid htp; clear htp
  have hki : (k : Int) < (top : Int) := by omega
  have hmi : (m : Int) < (top : Int) := by omega
  clear htop
  go_enter Try.func67, Try.ntmps67
  go_wp2_with fail
  refine (impl_IsLifeTable_any b.first A n cap b.lives _ HBT.out.lives HBT.out.cap HBT.out.first).mono ?_
  rw [HPP.out.1.1]
  rintro e w1 ⟨rfl, hb1⟩
  have HB1 := Lib.hid (HB.out.below' hb1)
  have HR1 := Lib.hid (HR.out.below' hb1)
  have HBT1 := Lib.hid (HBT.out.past hb1)
  have hbw1 := hbw.trans (hb1.mono hbw.size)
  have hcT := Lib.hid (Blk.agg (cs := [.int .i64 b.first, .slice A n cap]) HB1.out 0 [.int .i64 b.first, .slice A n cap] rfl)
  go_wp2_with (refine wpList_load_agg rfl 26 _ rfl ⟨w.heap.size, 0, none⟩ rfl [.int .i64 b.first, .slice A n cap] hcT.out _ Try.underlying26 rfl Tab.size ?_)
  clear hcT
  refine (impl_isAssurance_any b A n cap p.kind p.age p.years p.sum _ ⟨by omega, by omega⟩).mono ?_
  rw [HPP.out.2.1]
  rintro e w2 ⟨rfl, hb2⟩
  have HB2 := Lib.hid (HB1.out.below' hb2)
  have HR2 := Lib.hid (HR1.out.below' hb2)
  have HBT2 := Lib.hid (HBT1.out.past hb2)
  have hbw2 := hbw1.trans (hb2.mono hbw1.size)
  have hcT := Lib.hid (Blk.agg (cs := [.int .i64 b.first, .slice A n cap]) HB2.out 0 [.int .i64 b.first, .slice A n cap] rfl)
  go_wp2_with (refine wpList_load_agg rfl 26 _ rfl ⟨w.heap.size, 0, none⟩ rfl [.int .i64 b.first, .slice A n cap] hcT.out _ Try.underlying26 rfl Tab.size ?_)
  clear hcT
  refine (impl_columnsOf_any b.first A n cap b.lives b.rate _ HBT2.out.lives HPO.out.tab ⟨HPO.out.rate0, HPO.out.rate1⟩).mono ?_
  rw [HTP.out]
  rintro e w3 ⟨g, rfl, hL, hb3⟩
  have HB3 := Lib.hid (HB2.out.below' hb3)
  have HR3 := Lib.hid (HR2.out.below' hb3)
  have hbw3 := hbw2.trans (hb3.mono hbw2.size)
  obtain ⟨ad, had0, hadB, _, hc1⟩ := hL.at' (colRows_get (xs := b.lives) (rate := b.rate) hkt)
  obtain ⟨ad', had1, _, _, hc2⟩ := hL.at' (colRows_get (xs := b.lives) (rate := b.rate) hmt)
  obtain rfl : ad' = ad := by rw [had0] at had1; injection had1 with had1; exact had1.symm
  rw [had0] at *
  have b0 : w3.cell? ⟨w.heap.size, 0, none⟩ = some (.int .i64 b.first) := HB3.out.cell 0
  have u0 : w3.cell? (ad'.add (k * 4)) = some (.int .i64 (dC b.lives b.rate k)) := by have := hc1 0 _ rfl; rwa [Addr.add_zero'] at this
  have u1 : w3.cell? ⟨(ad'.add (k * 4)).block, (ad'.add (k * 4)).off + 1, none⟩ = some (.int .i64 (nC b.lives b.rate k)) := hc1 1 _ rfl
  have u2 : w3.cell? ⟨(ad'.add (k * 4)).block, (ad'.add (k * 4)).off + 2, none⟩ = some (.int .i64 (cC b.lives b.rate k)) := hc1 2 _ rfl
  have u3 : w3.cell? ⟨(ad'.add (k * 4)).block, (ad'.add (k * 4)).off + 3, none⟩ = some (.int .i64 (mC b.lives b.rate k)) := hc1 3 _ rfl
  have v0 : w3.cell? (ad'.add (m * 4)) = some (.int .i64 (dC b.lives b.rate m)) := by have := hc2 0 _ rfl; rwa [Addr.add_zero'] at this
  have v1 : w3.cell? ⟨(ad'.add (m * 4)).block, (ad'.add (m * 4)).off + 1, none⟩ = some (.int .i64 (nC b.lives b.rate m)) := hc2 1 _ rfl
  have v2 : w3.cell? ⟨(ad'.add (m * 4)).block, (ad'.add (m * 4)).off + 2, none⟩ = some (.int .i64 (cC b.lives b.rate m)) := hc2 2 _ rfl
  have v3 : w3.cell? ⟨(ad'.add (m * 4)).block, (ad'.add (m * 4)).off + 3, none⟩ = some (.int .i64 (mC b.lives b.rate m)) := hc2 3 _ rfl
  clear hc1 hc2
  have hs3 : w.heap.size < w3.heap.size := HB3.out.lt
  have hs4 : w.heap.size + 1 < w3.heap.size := HR3.out.lt
  have hs5 : (ad'.add (k * 4)).block < w3.heap.size := by rw [block_of_add]; exact hadB
  have hs6 : (ad'.add (m * 4)).block < w3.heap.size := by rw [block_of_add]; exact hadB
  have hk0 : 0 ≤ (k : Int) := by omega
  have hm0 : 0 ≤ (m : Int) := by omega
  go_wp2
  go_region
  · obtain ⟨w4, hw4⟩ : ∃ w4, ((w3.alloc (.cells #[.int .i64 (dC b.lives b.rate k), .int .i64 (nC b.lives b.rate k), .int .i64 (cC b.lives b.rate k), .int .i64 (mC b.lives b.rate k)] 116)).alloc (.cells #[.int .i64 (dC b.lives b.rate m), .int .i64 (nC b.lives b.rate m), .int .i64 (cC b.lives b.rate m), .int .i64 (mC b.lives b.rate m)] 116)).drew = w4 := ⟨_, rfl⟩
    have Hf := Lib.hid (((Blk.new w3 116 #[.int .i64 (dC b.lives b.rate k), .int .i64 (nC b.lives b.rate k), .int .i64 (cC b.lives b.rate k), .int .i64 (mC b.lives b.rate k)]).alloc (.cells #[.int .i64 (dC b.lives b.rate m), .int .i64 (nC b.lives b.rate m), .int .i64 (cC b.lives b.rate m), .int .i64 (mC b.lives b.rate m)] 116)).drew)
    have Hs := Lib.hid ((Blk.new (w3.alloc (.cells #[.int .i64 (dC b.lives b.rate k), .int .i64 (nC b.lives b.rate k), .int .i64 (cC b.lives b.rate k), .int .i64 (mC b.lives b.rate k)] 116)) 116 #[.int .i64 (dC b.lives b.rate m), .int .i64 (nC b.lives b.rate m), .int .i64 (cC b.lives b.rate m), .int .i64 (mC b.lives b.rate m)]).drew)
    rw [World.size_alloc] at Hs
    have HR4 := Lib.hid (((HR3.out.alloc (.cells #[.int .i64 (dC b.lives b.rate k), .int .i64 (nC b.lives b.rate k), .int .i64 (cC b.lives b.rate k), .int .i64 (mC b.lives b.rate k)] 116)).alloc (.cells #[.int .i64 (dC b.lives b.rate m), .int .i64 (nC b.lives b.rate m), .int .i64 (cC b.lives b.rate m), .int .i64 (mC b.lives b.rate m)] 116)).drew)
    have hb4 : Below w3.heap.size w3 w4 := by rw [← hw4]; exact (((Below.refl _ w3).alloc (Nat.le_refl _) _).alloc (by simp) _).drew
    rw [hw4] at Hf Hs HR4
    rw [hw4]
    clear hw4 u0 u1 u2 u3 v0 v1 v2 v3 b0
    have n0 : w4.cell? ⟨w3.heap.size, 0, none⟩ = some (.int .i64 (dC b.lives b.rate k)) := Hf.out.cell 0
    have hcN := Lib.hid (Blk.agg (cs := [.int .i64 (dC b.lives b.rate k), .int .i64 (nC b.lives b.rate k), .int .i64 (cC b.lives b.rate k), .int .i64 (mC b.lives b.rate k)]) Hf.out 0 [.int .i64 (dC b.lives b.rate k), .int .i64 (nC b.lives b.rate k), .int .i64 (cC b.lives b.rate k), .int .i64 (mC b.lives b.rate k)] rfl)
    have hcL := Lib.hid (Blk.agg (cs := [.int .i64 (dC b.lives b.rate m), .int .i64 (nC b.lives b.rate m), .int .i64 (cC b.lives b.rate m), .int .i64 (mC b.lives b.rate m)]) Hs.out 0 [.int .i64 (dC b.lives b.rate m), .int .i64 (nC b.lives b.rate m), .int .i64 (cC b.lives b.rate m), .int .i64 (mC b.lives b.rate m)] rfl)
    have hdz : ¬ dC b.lives b.rate k = 0 := by omega
    have z1 := nC_bound HPO.out.tab HPO.out.rate0 k; have z2 := mC_bound HPO.out.tab HPO.out.rate0 k; have z3 := nC_bound HPO.out.tab HPO.out.rate0 m; have z4 := mC_bound HPO.out.tab HPO.out.rate0 m; have z5 := dC_bound HPO.out.tab HPO.out.rate0 k; have z6 := dC_bound HPO.out.tab HPO.out.rate0 m
    go_wp2_with (first | (refine wpList_load_agg rfl 116 _ rfl ⟨w3.heap.size, 0, none⟩ rfl [.int .i64 (dC b.lives b.rate k), .int .i64 (nC b.lives b.rate k), .int .i64 (cC b.lives b.rate k), .int .i64 (mC b.lives b.rate k)] hcN.out _ Try.underlying116 rfl Columns.size ?_) | (refine wpList_load_agg rfl 116 _ rfl ⟨(w3.heap.size + 1), 0, none⟩ rfl [.int .i64 (dC b.lives b.rate m), .int .i64 (nC b.lives b.rate m), .int .i64 (cC b.lives b.rate m), .int .i64 (mC b.lives b.rate m)] hcL.out _ Try.underlying116 rfl Columns.size ?_))
    refine (impl_benefits_any p.kind (dC b.lives b.rate k) (nC b.lives b.rate k) (cC b.lives b.rate k) (mC b.lives b.rate k) (dC b.lives b.rate m) (nC b.lives b.rate m) (cC b.lives b.rate m) (mC b.lives b.rate m) _ ⟨by omega, by omega⟩ ⟨by omega, by omega⟩ ⟨by omega, by omega⟩ ⟨by omega, by omega⟩ ⟨by omega, by omega⟩).mono ?_
    rw [QB.out.1, QB.out.2]
    rintro e w5 ⟨rfl, hb5⟩
    have HN5 := Lib.hid (Hf.out.below' hb5)
    have HR5 := Lib.hid (HR4.out.below' hb5)
    have n5 : w5.cell? ⟨w3.heap.size, 0, none⟩ = some (.int .i64 (dC b.lives b.rate k)) := HN5.out.cell 0
    clear n0 hcN hcL
    have H1c : Hid (∀ v ∈ ([.int .i64 (b.top p.kind p.age p.years), .int .i64 (dC b.lives b.rate k), .int .i64 (b.base p.kind p.age p.years)] : List Value), v.oneCell' = true) := Lib.hid (by simp [Value.oneCell'])
    go_wp2_with (refine wpList_store_agg rfl 73 _ _ rfl (w.heap.size + 1) 0 [.int .i64 (b.top p.kind p.age p.years), .int .i64 (dC b.lives b.rate k), .int .i64 (b.base p.kind p.age p.years)] rfl rfl 73 #[.int .i64 0, .int .i64 0, .int .i64 0] HR5.out PriceParts.size (by simp) H1c.out ?_)
    intro w6 hR6 hg6 _
    have hR6' : Blk w6 (w.heap.size + 1) 73 #[.int .i64 (b.top p.kind p.age p.years), .int .i64 (dC b.lives b.rate k), .int .i64 (b.base p.kind p.age p.years)] := hR6
    have r0 : w6.cell? ⟨w.heap.size + 1, 0, none⟩ = some (.int .i64 (b.top p.kind p.age p.years)) := hR6'.cell 0
    have r1 : w6.cell? ⟨w.heap.size + 1, 1, none⟩ = some (.int .i64 (dC b.lives b.rate k)) := hR6'.cell 1
    have r2 : w6.cell? ⟨w.heap.size + 1, 2, none⟩ = some (.int .i64 (b.base p.kind p.age p.years)) := hR6'.cell 2
    go_wp2
    have hx : Below w.heap.size w w5 := hbw3.trans ((hb4.mono hbw3.size).trans (hb5.mono (Nat.le_trans hbw3.size hb4.size)))
    refine bodyPost_ret (v := .tuple #[.agg #[.int .i64 (b.top p.kind p.age p.years), .int .i64 (dC b.lives b.rate k), .int .i64 (b.base p.kind p.age p.years)], .int .i64 0]) (by simp [results, Try.results67, go_sem, r0, r1, r2]) rfl ⟨by rw [QD.out], hx.grown hg6 hx.size (fun k hk => by injection hk with hk; omega)⟩
  · obtain ⟨w4, hw4⟩ : ∃ w4, ((w3.alloc (.cells #[.int .i64 (dC b.lives b.rate m), .int .i64 (nC b.lives b.rate m), .int .i64 (cC b.lives b.rate m), .int .i64 (mC b.lives b.rate m)] 116)).alloc (.cells #[.int .i64 (dC b.lives b.rate k), .int .i64 (nC b.lives b.rate k), .int .i64 (cC b.lives b.rate k), .int .i64 (mC b.lives b.rate k)] 116)).drew = w4 := ⟨_, rfl⟩
    have Hf := Lib.hid (((Blk.new w3 116 #[.int .i64 (dC b.lives b.rate m), .int .i64 (nC b.lives b.rate m), .int .i64 (cC b.lives b.rate m), .int .i64 (mC b.lives b.rate m)]).alloc (.cells #[.int .i64 (dC b.lives b.rate k), .int .i64 (nC b.lives b.rate k), .int .i64 (cC b.lives b.rate k), .int .i64 (mC b.lives b.rate k)] 116)).drew)
    have Hs := Lib.hid ((Blk.new (w3.alloc (.cells #[.int .i64 (dC b.lives b.rate m), .int .i64 (nC b.lives b.rate m), .int .i64 (cC b.lives b.rate m), .int .i64 (mC b.lives b.rate m)] 116)) 116 #[.int .i64 (dC b.lives b.rate k), .int .i64 (nC b.lives b.rate k), .int .i64 (cC b.lives b.rate k), .int .i64 (mC b.lives b.rate k)]).drew)
    rw [World.size_alloc] at Hs
    have HR4 := Lib.hid (((HR3.out.alloc (.cells #[.int .i64 (dC b.lives b.rate m), .int .i64 (nC b.lives b.rate m), .int .i64 (cC b.lives b.rate m), .int .i64 (mC b.lives b.rate m)] 116)).alloc (.cells #[.int .i64 (dC b.lives b.rate k), .int .i64 (nC b.lives b.rate k), .int .i64 (cC b.lives b.rate k), .int .i64 (mC b.lives b.rate k)] 116)).drew)
    have hb4 : Below w3.heap.size w3 w4 := by rw [← hw4]; exact (((Below.refl _ w3).alloc (Nat.le_refl _) _).alloc (by simp) _).drew
    rw [hw4] at Hf Hs HR4
    rw [hw4]
    clear hw4 u0 u1 u2 u3 v0 v1 v2 v3 b0
    have n0 : w4.cell? ⟨(w3.heap.size + 1), 0, none⟩ = some (.int .i64 (dC b.lives b.rate k)) := Hs.out.cell 0
    have hcN := Lib.hid (Blk.agg (cs := [.int .i64 (dC b.lives b.rate k), .int .i64 (nC b.lives b.rate k), .int .i64 (cC b.lives b.rate k), .int .i64 (mC b.lives b.rate k)]) Hs.out 0 [.int .i64 (dC b.lives b.rate k), .int .i64 (nC b.lives b.rate k), .int .i64 (cC b.lives b.rate k), .int .i64 (mC b.lives b.rate k)] rfl)
    have hcL := Lib.hid (Blk.agg (cs := [.int .i64 (dC b.lives b.rate m), .int .i64 (nC b.lives b.rate m), .int .i64 (cC b.lives b.rate m), .int .i64 (mC b.lives b.rate m)]) Hf.out 0 [.int .i64 (dC b.lives b.rate m), .int .i64 (nC b.lives b.rate m), .int .i64 (cC b.lives b.rate m), .int .i64 (mC b.lives b.rate m)] rfl)
    have hdz : ¬ dC b.lives b.rate k = 0 := by omega
    have z1 := nC_bound HPO.out.tab HPO.out.rate0 k; have z2 := mC_bound HPO.out.tab HPO.out.rate0 k; have z3 := nC_bound HPO.out.tab HPO.out.rate0 m; have z4 := mC_bound HPO.out.tab HPO.out.rate0 m; have z5 := dC_bound HPO.out.tab HPO.out.rate0 k; have z6 := dC_bound HPO.out.tab HPO.out.rate0 m
    go_wp2_with (first | (refine wpList_load_agg rfl 116 _ rfl ⟨(w3.heap.size + 1), 0, none⟩ rfl [.int .i64 (dC b.lives b.rate k), .int .i64 (nC b.lives b.rate k), .int .i64 (cC b.lives b.rate k), .int .i64 (mC b.lives b.rate k)] hcN.out _ Try.underlying116 rfl Columns.size ?_) | (refine wpList_load_agg rfl 116 _ rfl ⟨w3.heap.size, 0, none⟩ rfl [.int .i64 (dC b.lives b.rate m), .int .i64 (nC b.lives b.rate m), .int .i64 (cC b.lives b.rate m), .int .i64 (mC b.lives b.rate m)] hcL.out _ Try.underlying116 rfl Columns.size ?_))
    refine (impl_benefits_any p.kind (dC b.lives b.rate k) (nC b.lives b.rate k) (cC b.lives b.rate k) (mC b.lives b.rate k) (dC b.lives b.rate m) (nC b.lives b.rate m) (cC b.lives b.rate m) (mC b.lives b.rate m) _ ⟨by omega, by omega⟩ ⟨by omega, by omega⟩ ⟨by omega, by omega⟩ ⟨by omega, by omega⟩ ⟨by omega, by omega⟩).mono ?_
    rw [QB.out.1, QB.out.2]
    rintro e w5 ⟨rfl, hb5⟩
    have HN5 := Lib.hid (Hs.out.below' hb5)
    have HR5 := Lib.hid (HR4.out.below' hb5)
    have n5 : w5.cell? ⟨(w3.heap.size + 1), 0, none⟩ = some (.int .i64 (dC b.lives b.rate k)) := HN5.out.cell 0
    clear n0 hcN hcL
    have H1c : Hid (∀ v ∈ ([.int .i64 (b.top p.kind p.age p.years), .int .i64 (dC b.lives b.rate k), .int .i64 (b.base p.kind p.age p.years)] : List Value), v.oneCell' = true) := Lib.hid (by simp [Value.oneCell'])
    go_wp2_with (refine wpList_store_agg rfl 73 _ _ rfl (w.heap.size + 1) 0 [.int .i64 (b.top p.kind p.age p.years), .int .i64 (dC b.lives b.rate k), .int .i64 (b.base p.kind p.age p.years)] rfl rfl 73 #[.int .i64 0, .int .i64 0, .int .i64 0] HR5.out PriceParts.size (by simp) H1c.out ?_)
    intro w6 hR6 hg6 _
    have hR6' : Blk w6 (w.heap.size + 1) 73 #[.int .i64 (b.top p.kind p.age p.years), .int .i64 (dC b.lives b.rate k), .int .i64 (b.base p.kind p.age p.years)] := hR6
    have r0 : w6.cell? ⟨w.heap.size + 1, 0, none⟩ = some (.int .i64 (b.top p.kind p.age p.years)) := hR6'.cell 0
    have r1 : w6.cell? ⟨w.heap.size + 1, 1, none⟩ = some (.int .i64 (dC b.lives b.rate k)) := hR6'.cell 1
    have r2 : w6.cell? ⟨w.heap.size + 1, 2, none⟩ = some (.int .i64 (b.base p.kind p.age p.years)) := hR6'.cell 2
    go_wp2
    have hx : Below w.heap.size w w5 := hbw3.trans ((hb4.mono hbw3.size).trans (hb5.mono (Nat.le_trans hbw3.size hb4.size)))
    refine bodyPost_ret (v := .tuple #[.agg #[.int .i64 (b.top p.kind p.age p.years), .int .i64 (dC b.lives b.rate k), .int .i64 (b.base p.kind p.age p.years)], .int .i64 0]) (by simp [results, Try.results67, go_sem, r0, r1, r2]) rfl ⟨by rw [QD.out], hx.grown hg6 hx.size (fun k hk => by injection hk with hk; omega)⟩

def priceP (b : Bas) (kind age n sum : Int) : Int := upP sum (b.top kind age n) (b.d age)
set_option maxHeartbeats 2000000 in
theorem impl_AssurancePrice_at (b : Bas) (A : Option Addr) (n cap : Nat) (kind age yrs sum : Int) (w : World) (hB : BasT w A n cap b) (hbs : basisB b = true) (has : assurB b kind age yrs sum = true) (hdd : b.d age ≠ 0) :
    Calls Try.prog 16 #[.agg #[.int .i64 b.first, .slice A n cap], .int .i64 b.rate, .int .i64 kind, .int .i64 age, .int .i64 yrs, .int .i64 sum] w fun e w' =>
      e = .returned (.tuple #[.int .i64 (priceP b kind age yrs sum), .int .i64 0]) ∧ Below w.heap.size w w' := by
  have hbw : Below w.heap.size w (w.alloc (.cells #[.int .i64 b.first, .slice A n cap] 26)) := (Below.refl _ w).alloc (Nat.le_refl _) _
  have HBT := Lib.hid (hB.past hbw); clear hB
  have B := basis_ok hbs
  have t1 := top_bound B kind age yrs
  have t5 := d_bound B age
  have Q := assur_ok has
  have s1 := Q.sum0; have s2 := Q.sum1
  have t6 := mul_div_le (a := sum) (m := 1) (by omega) t1.1 (show 1 ≤ b.d age by omega) (by omega)
  go_enter Try.func16, Try.ntmps16
  go_wp2_with fail
  refine (impl_checkAssurance_at b A n cap ⟨kind, age, yrs, sum, 0⟩ _ HBT.out hbs has hdd).mono ?_
  rintro e w1 ⟨rfl, hb1⟩
  go_wp2_with fail
  refine (impl_priced_any sum (b.top kind age yrs) (b.d age) _ ⟨by omega, by omega⟩ ⟨by omega, by omega⟩ ⟨by omega, by omega⟩ (by omega)).mono ?_
  rintro e w2 ⟨rfl, hb2⟩
  go_wp2
  go_ret2
  exact ⟨rfl, hbw.trans ((hb1.mono (by simp)).trans (((Below.refl _ w1).alloc (Nat.le_refl _) _).trans (hb2.mono (by simp)) |>.mono (by have := hb1.size; simp at this; omega)))⟩
end Go.Proofs.Ytbjdbpdgacfcpaa
end

/- Lists of reserves, risks and what leaving gives: plain functions and laws. No program. -/
section
namespace Go.Proofs.Ytbjdbpdgacfcpaa
open Go.RowKit Go.BigFrame

def rlAt (b : Bas) (p : Policy) (k : Nat) : Int := if partD b p k = 0 then -1 else resAt b p k
def rlN (b : Bas) (p : Policy) : Nat := (durP b p).toNat
def rlTo (b : Bas) (p : Policy) (k : Nat) : List Int := (List.range k).map (rlAt b p)
def wholeTo (b : Bas) (p : Policy) (k : Nat) : Bool := (List.range k).all fun j => decide (partD b p (j : Int) ≠ 0)
theorem rlTo_succ (b : Bas) (p : Policy) (k : Nat) : rlTo b p (k + 1) = rlTo b p k ++ [rlAt b p k] := by simp [rlTo, List.range_succ]
theorem rlTo_length (b : Bas) (p : Policy) (k : Nat) : (rlTo b p k).length = k := by simp [rlTo]
theorem rlTo_get (b : Bas) (p : Policy) {k n : Nat} (h : k < n) : (rlTo b p n)[k]? = some (rlAt b p k) := by simp [rlTo, h]
theorem wholeTo_succ (b : Bas) (p : Policy) (k : Nat) : wholeTo b p (k + 1) = (wholeTo b p k && decide (partD b p (k : Int) ≠ 0)) := by simp [wholeTo, List.range_succ]
theorem wholeTo_zero {b : Bas} {p : Policy} {k : Nat} (h : partD b p (k : Int) = 0) : wholeTo b p (k + 1) = false := by rw [wholeTo_succ]; simp [h]
theorem wholeTo_pos {b : Bas} {p : Policy} {k : Nat} (h : ¬ partD b p (k : Int) = 0) : wholeTo b p (k + 1) = wholeTo b p k := by rw [wholeTo_succ]; simp [h]
theorem wholeTo_at {b : Bas} {p : Policy} {k n : Nat} (h : wholeTo b p n = true) (hk : k < n) : ¬ partD b p (k : Int) = 0 := by
  simp only [wholeTo, List.all_eq_true, List.mem_range, decide_eq_true_eq] at h
  exact h k hk
theorem wholeTo_stop {b : Bas} {p : Policy} {k n : Nat} (h : partD b p (k : Int) = 0) (hk : k < n) : wholeTo b p n = false := by
  cases hw : wholeTo b p n
  · rfl
  · exact absurd h (wholeTo_at hw hk)
def rlP (b : Bas) (p : Policy) : List Int × Int := if polB b p = true then (if wholeTo b p (rlN b p) = true then (rlTo b p (rlN b p), 0) else ([], 5)) else ([], 1)
theorem dur_pos {b : Bas} {p : Policy} (P : PolOk b p) : 1 ≤ durP b p := by
  have h1 := d_age P
  have T := P.tab
  have h2 := P.age0
  unfold durP
  by_cases hk : p.kind = 0
  · rw [if_pos hk]
    have hz := dC_zero (rate := b.rate) T (b.ix p.age)
    have h3 : ¬ b.lives.length - 1 ≤ b.ix p.age := fun h => by have := hz h; unfold Bas.d at h1; omega
    have h4 := T.len0
    unfold Bas.last
    unfold Bas.ix at h3
    omega
  · rw [if_neg hk]
    have := P.yrs0
    have := P.zero
    omega
theorem dur_small {b : Bas} {p : Policy} (P : PolOk b p) : durP b p ≤ 120 := by
  have T := P.tab
  have h1 := P.yrs1
  have h2 := P.age0
  have h3 := T.len1
  unfold durP Bas.last
  split <;> omega
theorem rlN_cast {b : Bas} {p : Policy} (P : PolOk b p) : ((rlN b p : Nat) : Int) = durP b p ∧ 1 ≤ rlN b p ∧ rlN b p ≤ 120 := by
  have h1 := dur_pos P
  have h2 := dur_small P
  unfold rlN
  omega
theorem year_at {b : Bas} {p : Policy} {k : Nat} (P : PolOk b p) (hk : k < rlN b p) (hd : ¬ partD b p (k : Int) = 0) : YearOk b p (k : Int) := by
  have h1 := (rlN_cast P).1
  have h2 := d_bound P.toBasOk (p.age + (k : Int))
  exact { toPolOk := P, k0 := by omega, k1 := by omega, d1 := by unfold partD at hd; omega }
theorem rlAt_bound {b : Bas} {p : Policy} {k : Nat} (P : PolOk b p) (hk : k < rlN b p) : -1 ≤ rlAt b p k ∧ rlAt b p k ≤ 100000001 := by
  unfold rlAt
  split
  · omega
  · rename_i h
    have := res_bound (year_at P hk h)
    omega
theorem res_pol {b : Bas} {p : Policy} {k : Int} (h : resCode b p k = 0) : polB b p = true := by
  unfold resCode at h
  cases hp : polB b p
  · rw [hp] at h; simp at h
  · rfl
theorem code_at {b : Bas} {p : Policy} {k : Int} (h : polB b p = true) (hk : 0 ≤ k) (hk2 : k ≤ durP b p - 1) : resCode b p k = if partD b p k = 0 then 5 else 0 := by
  unfold resCode
  rw [if_pos h, if_pos (inR_mk ⟨hk, hk2⟩)]; rfl
/-- the first greatest one -/
def gdm (ys : List Int) (k : Nat) : Int := ys.getD k 0
def topIx (ys : List Int) : Nat → Nat
  | 0 => 0
  | k + 1 => if gdm ys (topIx ys k) < gdm ys k then k else topIx ys k
def greatP (b : Bas) (p : Policy) : Int × Int × Int :=
  if (rlP b p).2 = 0 then (gdm (rlTo b p (rlN b p)) (topIx (rlTo b p (rlN b p)) (rlN b p)), (topIx (rlTo b p (rlN b p)) (rlN b p) : Int), 0) else (0, 0, (rlP b p).2)
theorem top_lt {ys : List Int} {n : Nat} (h : 0 < n) : ∀ k, k ≤ n → topIx ys k < n
  | 0, _ => h
  | k + 1, hk => by
    have := top_lt (ys := ys) h k (by omega)
    unfold topIx
    split <;> omega
theorem gdm_get {ys : List Int} {k : Nat} {y : Int} (h : ys[k]? = some y) : gdm ys k = y := by simp [gdm, h]
theorem top_succ {ys : List Int} {k : Nat} {y z : Int} (hy : ys[k]? = some y) (hz : ys[topIx ys k]? = some z) : topIx ys (k + 1) = if z < y then k else topIx ys k := by
  show (if gdm ys (topIx ys k) < gdm ys k then k else topIx ys k) = _
  rw [gdm_get hy, gdm_get hz]
theorem top_max {ys : List Int} : ∀ k j, j < k → gdm ys j ≤ gdm ys (topIx ys k)
  | 0, j, h => by omega
  | k + 1, j, h => by
    by_cases hj : j = k
    · subst hj; unfold topIx; split <;> omega
    · have := top_max (ys := ys) k j (by omega)
      unfold topIx
      split <;> omega
theorem rl_good {b : Bas} {p : Policy} (h : (rlP b p).2 = 0) : polB b p = true ∧ rlP b p = (rlTo b p (rlN b p), 0) := by
  unfold rlP at h ⊢
  by_cases h1 : polB b p = true
  · rw [if_pos h1] at h ⊢
    by_cases h2 : wholeTo b p (rlN b p) = true
    · rw [if_pos h2] at h ⊢; exact ⟨h1, rfl⟩
    · rw [if_neg h2] at h; simp at h
  · rw [if_neg h1] at h; simp at h
def paidR (p : Policy) : Int := if p.kind = 3 then 0 else p.sum
def riskP (b : Bas) (p : Policy) (k : Int) : Int × Int :=
  if resCode b p k = 0 then (if k = durP b p - 1 then (if p.kind = 2 then 0 else paidR p, 0) else if partD b p (k + 1) = 0 then (0, 5) else (paidR p - resAt b p (k + 1), 0)) else (0, resCode b p k)
def denP (b : Bas) (p : Policy) (k : Int) : Int × Int := if resCode b p k = 0 then (partD b p k, 0) else (0, resCode b p k)
def fwdAt (b : Bas) (p : Policy) (k : Int) : Int × Int := fwdP p.sum (partT b p k) (netP b p) (partB b p k) (partD b p k)
def fwdRP (b : Bas) (p : Policy) (k : Int) : Int × Int × Int := if resCode b p k = 0 then ((fwdAt b p k).1, (fwdAt b p k).2, 0) else (0, 0, resCode b p k)

def leavCode (b : Bas) (p : Policy) (k : Int) : Int := if resCode b p k = 0 then (if k < 2 then 4 else 0) else resCode b p k
def valV (b : Bas) (p : Policy) (k : Int) : Int := resAt b p k * 900 / 1000
def surP (b : Bas) (p : Policy) (k : Int) : Int × Int := if leavCode b p k = 0 then (valV b p k, 0) else (0, leavCode b p k)
def lossP (b : Bas) (p : Policy) (k : Int) : Int × Int := if leavCode b p k = 0 then (resAt b p k - valV b p k, 0) else (0, leavCode b p k)
def loanP (b : Bas) (p : Policy) (k : Int) : Int × Int := if leavCode b p k = 0 then (valV b p k * 800 / 1000, 0) else (0, leavCode b p k)
def puQ (s v d t : Int) : Int := if t = 0 then 0 else min s (v * d / t)
def paidUpP (b : Bas) (p : Policy) (k : Int) : Int × Int := if leavCode b p k = 0 then (puQ p.sum (valV b p k) (partD b p k) (partT b p k), 0) else (0, leavCode b p k)
/-- the greatest number of years, up to m, whose price is at most v -/
def keptM (b : Bas) (p : Policy) (k v : Int) : Nat → Nat
  | 0 => 0
  | m + 1 => if priceP b 1 (p.age + k) ((m : Int) + 1) p.sum ≤ v then m + 1 else keptM b p k v m
def keptYP (b : Bas) (p : Policy) (k : Int) : Int × Int := if leavCode b p k = 0 then ((keptM b p k (valV b p k) (durP b p - k).toNat : Int), 0) else (0, leavCode b p k)
theorem keptM_le (b : Bas) (p : Policy) (k v : Int) : ∀ m, keptM b p k v m ≤ m
  | 0 => Nat.le_refl _
  | m + 1 => by
    have := keptM_le b p k v m
    unfold keptM
    split <;> omega
theorem keptM_price {b : Bas} {p : Policy} {k v : Int} : ∀ m, keptM b p k v m ≠ 0 → priceP b 1 (p.age + k) (keptM b p k v m : Int) p.sum ≤ v
  | 0, h => absurd rfl h
  | m + 1, h => by
    unfold keptM at h ⊢
    by_cases hp : priceP b 1 (p.age + k) ((m : Int) + 1) p.sum ≤ v
    · rw [if_pos hp] at h ⊢
      exact hp
    · rw [if_neg hp] at h ⊢
      exact keptM_price m h
def bestN (b : Bas) (p : Policy) (k : Nat) : Int := valV b p k - k * officeP b p
def bestAt (b : Bas) (p : Policy) : Nat → Nat × Int
  | 0 => (2, bestN b p 2)
  | m + 1 => if (bestAt b p m).2 < bestN b p (m + 3) then (m + 3, bestN b p (m + 3)) else bestAt b p m
def midB (b : Bas) (p : Policy) (k : Nat) : Bool := (List.range k).all fun j => decide (2 ≤ j → partD b p (j : Int) ≠ 0)
def bestP (b : Bas) (p : Policy) : Int × Int × Int :=
  if polB b p = true then (if durP b p ≤ 2 then (0, 0, 4) else if midB b p (rlN b p) = true then (((bestAt b p (rlN b p - 3)).1 : Int), (bestAt b p (rlN b p - 3)).2, 0) else (0, 0, 5)) else (0, 0, 1)
end Go.Proofs.Ytbjdbpdgacfcpaa
end

/- The laws' own helpers: equal lists are like each other; the sum of a list. -/
section
namespace Go.Proofs.Ytbjdbpdgacfcpaa
open Go.RowKit Go.BigFrame

theorem likeInts_any (A : Option Addr) (n cap : Nat) (A2 : Option Addr) (cap2 : Nat) (xs : List Int) (w : World) (hl : xs.length = n) (hn : n ≤ 1048576) (hX : Rd w w.heap.size A 1 (intRows xs)) (hX2 : Rd w w.heap.size A2 1 (intRows xs)) :
    Calls Try.prog 30 #[.slice A n cap, .slice A2 n cap2] w fun e w' => e = .returned (.bool true) ∧ Below w.heap.size w w' := by
  have HX := Lib.hid hX; clear hX
  have HX2 := Lib.hid hX2; clear hX2
  have HL := Lib.hid hl; clear hl
  go_enter Try.func30, Try.ntmps30
  go_wp2
  go_loopw [5] (fun i wr => ∃ k : Nat, k ≤ n ∧ i = .int .i64 k ∧ Below w.heap.size w wr) (fun i _ => n - (intOf i).toNat)
  case atStart => exact ⟨0, by omega, rfl, Below.refl _ _⟩
  case round =>
    obtain ⟨k, hk, rfl, hb⟩ := hrel
    by_cases hlt : k < n
    · obtain ⟨x, hx⟩ := get_of_lt (xs := xs) (k := k) (by rw [HL.out]; exact hlt)
      obtain ⟨ad, rfl, had, hc⟩ := (HX.out.past hb).int_at hx
      obtain ⟨ad2, rfl, had2, hc2⟩ := (HX2.out.past hb).int_at hx
      clear hx
      have d0 := fun y : Past wr => Past.cell hc y
      have d1 := fun y : Past wr => Past.cell hc2 y
      have hki : (k : Int) < (n : Int) := by omega
      clear hc hc2
      go_wp2
      refine wp_region_past (by kernel_rfl) (by kernel_rfl) ?_
      repeat (go_big_quiet_step (fail))
      refine wpQuiet_nil ?_
      rintro _ ⟨y, rfl⟩
      go_wp2
      go_roundw
      case rel => exact ⟨k + 1, by omega, by go_num, hb.trans (y.2.mono hb.size)⟩
      case measure => simp [intOf]; omega
    · have hki : ¬ (k : Int) < (n : Int) := by omega
      go_wp2
      go_ret
      exact ⟨rfl, hb⟩

def SumOk (xs : List Int) : Prop := ∀ k : Nat, -4000000000000000000 ≤ (xs.take k).sum ∧ (xs.take k).sum ≤ 4000000000000000000
theorem takeSum_snoc {xs : List Int} {k : Nat} {x : Int} (hx : xs[k]? = some x) : (xs.take (k + 1)).sum = (xs.take k).sum + x := by
  rw [take_succ_snoc hx]; simp
theorem sumOk_of {lo hi : Int} (h0 : lo ≤ 0) (h1 : 0 ≤ hi) {n : Nat} : ∀ (xs : List Int), xs.length ≤ n → (∀ x ∈ xs, lo ≤ x ∧ x ≤ hi) → lo * (n : Int) ≤ xs.sum ∧ xs.sum ≤ hi * (n : Int)
  | [], _, _ => by
    simp only [List.sum_nil]
    exact ⟨by have := Int.mul_nonneg (show 0 ≤ -lo by omega) (show (0 : Int) ≤ n by omega); rw [Int.neg_mul] at this; omega, Int.mul_nonneg h1 (by omega)⟩
  | x :: r, hl, h => by
    cases n with
    | zero => simp at hl
    | succ n =>
      obtain ⟨h2, h3⟩ := sumOk_of h0 h1 (n := n) r (by simpa using hl) fun y hy => h y (by simp [hy])
      have h4 := h x (by simp)
      simp only [List.sum_cons]
      have e1 : lo * ((n + 1 : Nat) : Int) = lo * (n : Int) + lo := by rw [Int.natCast_add, Int.mul_add]; simp
      have e2 : hi * ((n + 1 : Nat) : Int) = hi * (n : Int) + hi := by rw [Int.natCast_add, Int.mul_add]; simp
      omega
theorem SumOk.of {lo hi : Int} {xs : List Int} {n : Nat} (h0 : lo ≤ 0) (h1 : 0 ≤ hi) (hl : xs.length ≤ n) (h : ∀ x ∈ xs, lo ≤ x ∧ x ≤ hi) (hb : -4000000000000000000 ≤ lo * (n : Int) ∧ hi * (n : Int) ≤ 4000000000000000000) : SumOk xs := fun k => by
  have := sumOk_of h0 h1 (n := n) (xs.take k) (by simp; omega) fun x hx => h x (List.mem_of_mem_take hx)
  omega

theorem laws_sum_any (A : Option Addr) (n cap : Nat) (xs : List Int) (w : World) (hl : xs.length = n) (hn : n ≤ 1048576) (hX : Rd w w.heap.size A 1 (intRows xs)) (hs : SumOk xs) :
    Calls Try.prog 17 #[.slice A n cap] w fun e w' => e = .returned (.int .i64 xs.sum) ∧ w = w' := by
  have HX := Lib.hid hX; clear hX
  have HL := Lib.hid hl; clear hl
  have HS := Lib.hid hs; clear hs
  go_enter Try.func17, Try.ntmps17
  go_wp2
  go_loop [3, 4] (fun s i => ∃ k : Nat, k ≤ n ∧ i = .int .i64 k ∧ s = .int .i64 (xs.take k).sum) (fun _ i => n - (intOf i).toNat)
  case atStart => exact ⟨0, by omega, rfl, rfl⟩
  case round =>
    obtain ⟨k, hk, rfl, rfl⟩ := hrel
    by_cases hlt : k < n
    · obtain ⟨x, hx⟩ := get_of_lt (xs := xs) (k := k) (by rw [HL.out]; exact hlt)
      obtain ⟨ad, rfl, had, hc⟩ := HX.out.int_at hx
      have HE := Lib.hid (takeSum_snoc hx)
      obtain ⟨s0, s1⟩ := HS.out (k + 1)
      rw [HE.out] at s0 s1
      obtain ⟨t0, t1⟩ := HS.out k
      generalize (xs.take k).sum = S at HE s0 s1 t0 t1 ⊢
      have Hx := Lib.hid hx; clear hx
      have hki : (k : Int) < (n : Int) := by omega
      go_wp2
      go_round
      case rel => exact ⟨k + 1, by omega, by go_num, by rw [HE.out]⟩
      case measure => simp [intOf]; omega
    · have hki : ¬ (k : Int) < (n : Int) := by omega
      have hkn : k = n := by omega
      subst hkn
      go_wp2
      go_ret
      exact ⟨by rw [List.take_of_length_le (by rw [HL.out]; exact Nat.le_refl _)]; rfl, rfl⟩
end Go.Proofs.Ytbjdbpdgacfcpaa
end

/- Draws of scenarios, amounts, funds; draws of the arguments of laws on portfolios. -/
section
namespace Go.Proofs.Ytbjdbpdgacfcpaa
open Go.RowKit Go.BigFrame

theorem Res.low {w : World} {B t sz n cap : Nat} {A : Option Addr} {rows : List (List Value)} (h : Res B w t sz A n cap rows) {Z : Nat} (hZ : Z < B) (i : Nat) (v : Value) : Res B (w.setCell ⟨Z, i, none⟩ v) t sz A n cap rows :=
  h.keep fun a ha => Below.heap_setCell _ _ _ _ (by have := (h.lt ha).1; show a ≠ Z; omega)
/-- a drawn basis, a drawn portfolio -/
structure PB (B : Nat) (w : World) (b : Bas) (A : Option Addr) (n c : Nat) (A2 : Option Addr) (k c2 : Nat) (xs : List Holding) : Prop where
  liv : Res B w 2 1 A n c (intRows b.lives)
  sm : BasSmall b n
  res : Res B w 37 7 A2 k c2 (holdingRows xs)
  len : k ≤ 100
  fits : ∀ x ∈ xs, x.fits
namespace PB
variable {K : Code} {g B : Nat} {w w' : World} {b : Bas} {A : Option Addr} {n c : Nat} {A2 : Option Addr} {k c2 : Nat} {xs : List Holding}
theorem nxx (h : PB B w b A n c A2 k c2 xs) (hN : Nx K g w w') (hB : g < B) : PB B w' b A n c A2 k c2 xs := { h with liv := h.liv.nx hN hB, res := h.res.nx hN hB }
theorem past (h : PB B w b A n c A2 k c2 xs) (hb : Below w.heap.size w w') : PB B w' b A n c A2 k c2 xs := { h with liv := h.liv.past hb, res := h.res.past hb }
theorem more {B' : Nat} (h : PB B w b A n c A2 k c2 xs) (hB : B' ≤ B) : PB B' w b A n c A2 k c2 xs := { h with liv := h.liv.more hB, res := h.res.more hB }
theorem low (h : PB B w b A n c A2 k c2 xs) {Z : Nat} (hZ : Z < B) (i : Nat) (v : Value) : PB B (w.setCell ⟨Z, i, none⟩ v) b A n c A2 k c2 xs := { h with liv := h.liv.low hZ i v, res := h.res.low hZ i v }
theorem xlen (h : PB B w b A n c A2 k c2 xs) : xs.length = k := by have := h.res.len; rwa [holdingRows_length] at this
theorem blen (h : PB B w b A n c A2 k c2 xs) : b.lives.length = n := by have := h.liv.len; rwa [intRows_length] at this
theorem basT (h : PB B w b A n c A2 k c2 xs) : BasT w A n c b := by
  have hl := h.blen
  refine BasT.of_res h.liv (by have := h.sm.len; omega) (fun x hx => ?_) ?_ ?_
  · have := h.sm.lives x hx; unfold In64; omega
  · have := h.sm.first; unfold In64; omega
  · have := h.sm.rate; unfold In64; omega
end PB
theorem spec_l17Draw_pb (K : Code) (hK : K.Ok) (g : Nat) (w0 : World) (w : World) (hT : Nx K g w0 w) :
    Calls Try.prog 55 #[.pointer (some ⟨g, 0, none⟩)] w fun e w' => ∃ (b : Bas) (A' : Option Addr) (n' c' : Nat) (A2 : Option Addr) (k c2 : Nat) (xs : List Holding), e = .returned (.tuple #[.agg #[.int .i64 b.first, .slice A' n' c', .int .i64 b.rate], .slice A2 k c2]) ∧ PB w0.heap.size w' b A' n' c' A2 k c2 xs ∧ Nx K g w0 w' := by
  refine (spec_l17Draw_any K hK g w0 w hT).mono ?_
  rintro e w3 ⟨b, A1, n1, c1, A2, k, c2, xs, rfl, h1, h2, h3, h4, h5, hT⟩
  exact ⟨b, A1, n1, c1, A2, k, c2, xs, rfl, ⟨h1, h2, h3, h4, h5⟩, hT⟩

set_option maxHeartbeats 2000000 in
theorem spec_l19DrawAmount_any (K : Code) (hK : K.Ok) (g : Nat) (w0 : World) (w : World) (hT : Nx K g w0 w) :
    Calls Try.prog 56 #[.pointer (some ⟨g, 0, none⟩)] w fun e w' => ∃ d : Int, e = .returned (.int .i64 d) ∧ (-1 ≤ d ∧ d ≤ 1000000001) ∧ Nx K g w0 w' := by
  go_enter Try.func56, Try.ntmps56
  go_wp2_with (first | (go_at_call 58; refine (spec_l01Next_any K hK g _ _ _ (Nx.refl (Nx.src (by first | exact hT | exact hT.alloc _ | exact (hT.alloc _).alloc _ | exact hT.drew)))).mono ?_; rintro e w3 ⟨x, rfl, ⟨hx0, hx1⟩, hN⟩; have hT := Nx.trans (by first | exact hT | exact hT.alloc _ | exact (hT.alloc _).alloc _ | exact hT.drew) hN) | (go_at_call 99; refine (spec_l01Pick_new K hK g _ _ _ _ (by first | exact hT | exact hT.alloc _ | exact (hT.alloc _).alloc _ | exact hT.drew) (by rfl) (by decide) (by decide) (by rfl)).mono ?_; rintro e w3 ⟨x, rfl, hx, hT⟩; simp only [OneOf, Value.int.injEq, true_and, or_false] at hx))
  all_goals (go_ret; exact ⟨_, rfl, by omega, hT⟩)

end Go.Proofs.Ytbjdbpdgacfcpaa
end

/- Slices that are read in later worlds, many at once. -/
section
namespace Go.Proofs.Ytbjdbpdgacfcpaa
open Go.RowKit Go.BigFrame
def Held (w : World) (L : List (Option Addr × Nat × List (List Value))) : Prop := ∀ x ∈ L, Rd w w.heap.size x.1 x.2.1 x.2.2
theorem Held.nil (w : World) : Held w [] := by intro x hx; cases hx
section
variable {w w' : World} {L : List (Option Addr × Nat × List (List Value))} {A : Option Addr} {sz : Nat} {rows : List (List Value)}
theorem Held.past (h : Held w L) (hb : Below w.heap.size w w') : Held w' L := fun x hx => (h x hx).past hb
theorem Held.snoc (h : Held w L) (hr : Rd w w.heap.size A sz rows) : Held w (L ++ [(A, sz, rows)]) := by
  intro x hx
  rcases List.mem_append.1 hx with hx | hx
  · exact h x hx
  · simp only [List.mem_singleton] at hx; rw [hx]; exact hr
theorem Held.cons (h : Held w L) (hr : Rd w w.heap.size A sz rows) : Held w ((A, sz, rows) :: L) := by
  intro x hx
  rcases List.mem_cons.1 hx with hx | hx
  · rw [hx]; exact hr
  · exact h x hx
theorem Held.get (h : Held w L) (k : Nat) (e : L[k]? = some (A, sz, rows)) : Rd w w.heap.size A sz rows := h _ (List.mem_of_getElem? e)
end
theorem Blk.rd {w : World} {g : Nat} {t : TypeId} {r : List Value} (h : Blk w g t r.toArray) : Rd w w.heap.size (some ⟨g, 0, none⟩) r.length [r] := by
  refine .inr ⟨_, rfl, h.lt, fun k r' hk => ?_⟩
  have h0 : k = 0 := by have := (List.getElem?_eq_some_iff.1 hk).1; simp at this; exact this
  subst h0
  simp only [List.getElem?_cons_zero, Option.some.injEq] at hk
  subst hk
  exact ⟨rfl, fun j v hv => by rw [add_none, h.cell]; simpa using hv⟩
/-- the cells of the one row of a box -/
theorem Rd.box {w : World} {B : Nat} {g sz : Nat} {r : List Value} (h : Rd w B (some ⟨g, 0, none⟩) sz [r]) : ∀ (j : Nat) (v : Value), r[j]? = some v → w.cell? ((⟨g, 0, none⟩ : Addr).add j) = some v := by
  intro j v hv
  rcases h with h | ⟨ad, e, _, hc⟩
  · cases h
  · injection e with e; subst e
    have := (hc 0 r rfl).2 j v hv
    simpa using this
theorem res_cap {w : World} {B t sz n cap : Nat} {A : Option Addr} {rows : List (List Value)} (h : Res B w t sz A n cap rows) : n ≤ cap := by
  rcases h.own.2 with ⟨h1, h2⟩ | ⟨g, c, cur, e, _, _, hnc, _⟩
  · simp only [Value.slice.injEq] at h1; omega
  · simp only [Value.slice.injEq] at e; omega
theorem Rd.boxT {w : World} {B g sz : Nat} {a b c : Value} (h : Rd w B (some ⟨g, 0, none⟩) sz [[a, b, c]]) : ∀ (j : Nat) (v : Value), [a, b][j]? = some v → w.cell? ((⟨g, 0, none⟩ : Addr).add j) = some v := fun j v hv => Rd.box h j v (by
  match j, hv with
  | 0, hv => simpa using hv
  | 1, hv => simpa using hv)
theorem below_all {w0 w1 w2 : World} (h : Below w0.heap.size w0 w1) (hb : Below w1.heap.size w1 w2) : Below w0.heap.size w0 w2 := h.trans (hb.mono h.size)
end Go.Proofs.Ytbjdbpdgacfcpaa
end

/- Tables are compared; what a law on portfolios knows of what was drawn. -/
section
namespace Go.Proofs.Ytbjdbpdgacfcpaa
open Go.RowKit Go.BigFrame
theorem Rd.bcell {w : World} {B g sz : Nat} {r : List Value} (h : Rd w B (some ⟨g, 0, none⟩) sz [r]) (j : Nat) {v : Value} (hv : r[j]? = some v) : w.cell? ⟨g, j, none⟩ = some v := by
  have := Rd.box h j v hv
  rw [add_none] at this
  simpa using this
/-- what is known of a drawn basis and portfolio, beside their cells -/
structure PF (b : Bas) (n c : Nat) (k : Nat) (xs : List Holding) : Prop where
  sm : BasSmall b n
  len : k ≤ 100
  fits : ∀ x ∈ xs, x.fits
  xlen : xs.length = k
  blen : b.lives.length = n
  cap : n ≤ c
theorem PB.pf {B : Nat} {w : World} {b : Bas} {A : Option Addr} {n c : Nat} {A2 : Option Addr} {k c2 : Nat} {xs : List Holding} (h : PB B w b A n c A2 k c2 xs) : PF b n c k xs := ⟨h.sm, h.len, h.fits, h.xlen, h.blen, res_cap h.liv⟩
/-- .. of a drawn basis alone -/
structure BF (b : Bas) (n c : Nat) : Prop where
  sm : BasSmall b n
  blen : b.lives.length = n
  cap : n ≤ c
theorem PF.bf {b : Bas} {n c k : Nat} {xs : List Holding} (h : PF b n c k xs) : BF b n c := ⟨h.sm, h.blen, h.cap⟩
theorem BF.of {B : Nat} {w : World} {b : Bas} {A : Option Addr} {n c : Nat} (h : Res B w 2 1 A n c (intRows b.lives)) (hs : BasSmall b n) : BF b n c := ⟨hs, by have := h.len; rwa [intRows_length] at this, res_cap h⟩
theorem liesT_of {w : World} {A : Option Addr} {n : Nat} {xs : List Int} (hr : Rd w w.heap.size A 1 (intRows xs)) (hl : xs.length = n) (hn : n ≤ 1048576) (h : ∀ x ∈ xs, 0 ≤ x ∧ x ≤ 1000001) : LiesT w A n xs :=
  ⟨hl, hn, hr, fun x hx => by have := h x hx; unfold In64; omega⟩
theorem BF.basT {w : World} {b : Bas} {A : Option Addr} {n c : Nat} (h : BF b n c) (hr : Rd w w.heap.size A 1 (intRows b.lives)) : BasT w A n c b := by
  refine ⟨liesT_of hr h.blen (by have := h.sm.len; omega) h.sm.lives, h.cap, ?_, ?_⟩
  · have := h.sm.first; unfold In64; omega
  · have := h.sm.rate; unfold In64; omega
theorem tab_lives {f : Int} {xs : List Int} (h : tableB f xs = true) : ∀ x ∈ xs, 0 ≤ x ∧ x ≤ 1000001 := by
  intro x hx
  have T := table_ok h
  obtain ⟨k, hk, rfl⟩ := List.getElem_of_mem hx
  have e : lv xs k = xs[k] := lv_get (List.getElem?_eq_getElem hk)
  have h1 := T.nonneg k
  have h2 := T.most k
  omega
theorem tab_first {f : Int} {xs : List Int} (h : tableB f xs = true) : In64 f := by
  have T := table_ok h
  have h1 := T.first0; have h2 := T.first1
  unfold In64; omega
theorem tabT_good {w : World} {A : Option Addr} {n : Nat} {f : Int} {xs : List Int} (h : tableB f xs = true) (hr : Rd w w.heap.size A 1 (intRows xs)) (hl : xs.length = n) : LiesT w A n xs :=
  liesT_of hr hl (by have := (table_ok h).len1; omega) (tab_lives h)
theorem basT_good {w : World} {A : Option Addr} {n c : Nat} {b : Bas} (h : basisB b = true) (hr : Rd w w.heap.size A 1 (intRows b.lives)) (hl : b.lives.length = n) (hc : n ≤ c) : BasT w A n c b := by
  have B := basis_ok h
  have ht : tableB b.first b.lives = true := by simp only [basisB, Bool.and_eq_true] at h; exact h.1
  refine ⟨tabT_good ht hr hl, hc, tab_first ht, ?_⟩
  have h1 := B.rate0; have h2 := B.rate1
  unfold In64; omega
theorem chgT_len {f dt : Int} {xs : List Int} : (chgTP f xs dt).2.1.length ≤ 1048576 := by
  unfold chgTP
  split
  · rename_i h1
    split
    · have := chgL_small (dt := dt) h1
      show (chgL xs dt).length ≤ 1048576
      omega
    · simp
  · simp
theorem chgB_len {b : Bas} {r : Scenario} : (chgBP b r).1.lives.length ≤ 1048576 := by
  unfold chgBP
  split
  · rename_i h1
    split
    · have ht : tableB b.first b.lives = true := by simp only [basisB, Bool.and_eq_true] at h1; exact h1.1
      have := chgL_small (dt := r.death) ht
      show (chgL b.lives r.death).length ≤ 1048576
      omega
    · simp
  · simp
theorem scen_fit2 {r d : Int} (h : (-1000 ≤ r ∧ r ≤ 1000) ∧ (-1000 ≤ d ∧ d ≤ 1000)) : (⟨r, d⟩ : Scenario).fits := by
  show In64 r ∧ In64 d
  unfold In64; omega
theorem box2 {w : World} {tx ty : TypeId} {X Y : List Value} : Below w.heap.size w ((w.alloc (.cells X.toArray tx)).alloc (.cells Y.toArray ty)) ∧ Rd ((w.alloc (.cells X.toArray tx)).alloc (.cells Y.toArray ty)) ((w.alloc (.cells X.toArray tx)).alloc (.cells Y.toArray ty)).heap.size (some ⟨w.heap.size, 0, none⟩) X.length [X] ∧ Rd ((w.alloc (.cells X.toArray tx)).alloc (.cells Y.toArray ty)) ((w.alloc (.cells X.toArray tx)).alloc (.cells Y.toArray ty)).heap.size (some ⟨w.heap.size + 1, 0, none⟩) Y.length [Y] := by
  refine ⟨((Below.refl _ w).alloc (Nat.le_refl _) _).alloc (by simp) _, Blk.rd ((Blk.new w tx X.toArray).alloc _), ?_⟩
  have h := Blk.new (w.alloc (.cells X.toArray tx)) ty Y.toArray
  simp only [World.size_alloc] at h
  exact Blk.rd h
theorem box1 {w : World} {tx : TypeId} {X : List Value} : Below w.heap.size w (w.alloc (.cells X.toArray tx)) ∧ Rd (w.alloc (.cells X.toArray tx)) (w.alloc (.cells X.toArray tx)).heap.size (some ⟨w.heap.size, 0, none⟩) X.length [X] :=
  ⟨(Below.refl _ w).alloc (Nat.le_refl _) _, Blk.rd (Blk.new w tx X.toArray)⟩
end Go.Proofs.Ytbjdbpdgacfcpaa
end
