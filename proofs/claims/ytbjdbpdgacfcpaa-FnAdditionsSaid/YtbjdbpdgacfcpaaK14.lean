/- Parts of a proof, one after another: AddP, Price, AddQ. No condition. -/
import Derived.Test.YtbjdbpdgacfcpaaK8
import Derived.Test.YtbjdbpdgacfcpaaK10
import Derived.Test.YtbjdbpdgacfcpaaK13
/- What a bonus adds to a policy and what that is worth: plain functions and their laws. No program. -/
section
namespace Go.Proofs.Ytbjdbpdgacfcpaa
open Go.RowKit Go.BigFrame

/-- the addition to the sum of each policy, and its worth, from the parts of a reserve: a the cash for each -/
def addQ (a t d : Int) : Int × Int := if t = 0 then (0, 0) else (min (a * d / t) 100000000, upP (min (a * d / t) 100000000) t d)
def addP (b : Bas) (h : Holding) (x : Int) : Int × Int := if h.count = 0 then (0, 0) else addQ (x / h.count) (partT b h.pol h.year) (partD b h.pol h.year)
structure AddOk (a t d : Int) : Prop where
  a0 : 0 ≤ a
  a1 : a ≤ 1000000000
  t0 : 1 ≤ t
  t1 : t ≤ d
  d1 : d ≤ 1000000000000000
theorem add_quo {a t d : Int} (K : AddOk a t d) : 0 ≤ a * d / t := Int.ediv_nonneg (Int.mul_nonneg K.a0 (by have := K.t0; have := K.t1; omega)) (by have := K.t0; omega)
theorem add_up {q t d : Int} (hq : 0 ≤ q) (ht : 0 ≤ t) (hd : 1 ≤ d) (h : t ≤ d) : (0 ≤ q * t / d ∧ q * t / d ≤ q) ∧ 0 ≤ upP q t d ∧ upP q t d ≤ q := by
  have h1 := mul_div_le (m := 1) hq ht hd (by omega)
  rw [Int.mul_one] at h1
  exact ⟨h1, up_le hq ht hd h⟩
theorem add_low {a t d : Int} (h : ¬ a * d / t ≤ 1000000000000000000) : min (a * d / t) 100000000 = 100000000 := by omega
theorem addQ_bound {a t d : Int} (h : t = 0 ∨ AddOk a t d) : (0 ≤ (addQ a t d).1 ∧ (addQ a t d).1 ≤ 100000000) ∧ 0 ≤ (addQ a t d).2 ∧ (addQ a t d).2 ≤ 100000000 := by
  unfold addQ
  by_cases h0 : t = 0
  · rw [if_pos h0]; omega
  · rw [if_neg h0]
    rcases h with h | K
    · exact absurd h h0
    · have h1 := add_quo K
      have h2 := add_up (q := min (a * d / t) 100000000) (t := t) (d := d) (by omega) (by have := K.t0; omega) (by have := K.t0; have := K.t1; omega) K.t1
      simp only
      omega
/-- what one policy pays for its addition is at most its cash -/
theorem worth_le {a t d : Int} (K : AddOk a t d) : (addQ a t d).2 ≤ a := by
  have h0 : ¬ t = 0 := by have := K.t0; omega
  unfold addQ
  rw [if_neg h0]
  simp only
  have hd : 1 ≤ d := by have := K.t0; have := K.t1; omega
  have hq := add_quo K
  generalize hm : min (a * d / t) 100000000 = q
  have hq0 : 0 ≤ q := by omega
  have hq1 : q ≤ a * d / t := by omega
  have h1 : q * t ≤ a * d / t * t := Int.mul_le_mul_of_nonneg_right hq1 (by have := K.t0; omega)
  have h2 : a * d / t * t ≤ a * d := by
    have := Int.mul_ediv_add_emod (a * d) t
    have := Int.emod_nonneg (a * d) (show t ≠ 0 from h0)
    have e := Int.mul_comm t (a * d / t)
    have h8 := Int.emod_nonneg (a * d) h0
    omega
  have h3 : q * t ≤ a * d := by omega
  unfold upP
  have h4 := Int.mul_ediv_add_emod (q * t) d
  have h5 := Int.emod_nonneg (q * t) (show d ≠ 0 by omega)
  split
  · rename_i hr
    have : q * t / d < a := by
      rcases Int.lt_or_le (q * t / d) a with h6 | h6
      · exact h6
      · have h7 : d * a ≤ d * (q * t / d) := Int.mul_le_mul_of_nonneg_left h6 (by omega)
        rw [Int.mul_comm d a] at h7
        omega
    omega
  · have h6 : q * t / d ≤ a * d / d := Int.ediv_le_ediv (by omega) h3
    rw [Int.mul_ediv_cancel _ (by omega)] at h6
    omega
theorem add_ok {b : Bas} {h : Holding} {x : Int} (Y : YearOk b h.pol h.year) (hx : 0 ≤ x ∧ x ≤ 1000000000) (hc : 1 ≤ h.count) : partT b h.pol h.year = 0 ∨ AddOk (x / h.count) (partT b h.pol h.year) (partD b h.pol h.year) := by
  have h1 := top_bound Y.toBasOk h.pol.kind (h.pol.age + h.year) (leftP h.pol h.year)
  have h2 := d_bound Y.toBasOk (h.pol.age + h.year)
  have h3 : 0 ≤ x / h.count := Int.ediv_nonneg hx.1 (by omega)
  have h4 : x / h.count ≤ x := Int.ediv_le_self _ hx.1
  by_cases h0 : partT b h.pol h.year = 0
  · exact .inl h0
  · refine .inr ⟨h3, by omega, ?_, h1.2, h2.2⟩
    have := h1.1
    unfold partT at h0 ⊢
    omega
theorem addP_bound {b : Bas} {h : Holding} {x : Int} (H : holdB b h = true) (hx : 0 ≤ x ∧ x ≤ 1000000000) : (0 ≤ (addP b h x).1 ∧ (addP b h x).1 ≤ 100000000) ∧ 0 ≤ (addP b h x).2 ∧ (addP b h x).2 ≤ 100000000 ∧ 0 ≤ h.count * (addP b h x).2 ∧ h.count * (addP b h x).2 ≤ x := by
  obtain ⟨⟨c0, c1⟩, Y⟩ := hold_ok H
  unfold addP
  by_cases hc : h.count = 0
  · rw [if_pos hc, hc]; omega
  · rw [if_neg hc]
    have K := add_ok (x := x) Y hx (by omega)
    have h1 := addQ_bound K
    refine ⟨h1.1, h1.2.1, h1.2.2, Int.mul_nonneg c0 h1.2.1, ?_⟩
    rcases K with K | K
    · unfold addQ; rw [if_pos K]; simp; omega
    · have h2 := worth_le K
      have h3 : h.count * (addQ (x / h.count) (partT b h.pol h.year) (partD b h.pol h.year)).2 ≤ h.count * (x / h.count) := Int.mul_le_mul_of_nonneg_left h2 c0
      have h4 := Int.mul_ediv_add_emod x h.count
      have h5 := Int.emod_nonneg x hc
      omega
def addForP (b : Bas) (h : Holding) (x : Int) : Int × Int :=
  if portB b [h] = true then (if inR x 0 1000000000 = true then (if h.count = 0 then (0, 5) else ((addP b h x).1, 0)) else (0, 2)) else (0, 1)

/-- holdings with their additions; what is left over -/
def Holding.plus (h : Holding) (q : Int) : Holding := { h with sum := h.sum + q }
def addH (b : Bas) (xs : List Holding) (ys : List Int) : List Holding := List.zipWith (fun h y => h.plus (addP b h y).1) xs ys
def addLeft (b : Bas) (xs : List Holding) (ys : List Int) : Int := (List.zipWith (fun h y => y - h.count * (addP b h y).2) xs ys).sum
def addB (b : Bas) (xs : List Holding) (ys : List Int) : Bool := (addH b xs ys).all fun h => decide (h.sum ≤ 100000000)
def addsP (b : Bas) (xs : List Holding) (ys : List Int) : List Holding × Int × Int :=
  if portB b xs = true then (if ys.length = xs.length ∧ ys.all (fun y => inR y 0 1000000000) = true then (if addB b xs ys = true then (addH b xs ys, addLeft b xs ys, 0) else ([], 0, 3)) else ([], 0, 2)) else ([], 0, 1)
theorem zip_get {α β γ : Type} {f : α → β → γ} {xs : List α} {ys : List β} {k : Nat} {x : α} {y : β} (h1 : xs[k]? = some x) (h2 : ys[k]? = some y) : (List.zipWith f xs ys)[k]? = some (f x y) := by
  rw [List.getElem?_zipWith, h1, h2]
theorem addH_get {b : Bas} {xs : List Holding} {ys : List Int} {k : Nat} {x : Holding} {y : Int} (h1 : xs[k]? = some x) (h2 : ys[k]? = some y) : (addH b xs ys)[k]? = some (x.plus (addP b x y).1) := zip_get h1 h2
theorem addB_no {b : Bas} {xs : List Holding} {ys : List Int} {k : Nat} {x : Holding} {y : Int} (h1 : xs[k]? = some x) (h2 : ys[k]? = some y) (h : 100000000 < x.sum + (addP b x y).1) : addB b xs ys = false := by
  unfold addB
  rw [List.all_eq_false]
  exact ⟨_, List.mem_of_getElem? (addH_get h1 h2), by
    have h3 : ¬ (x.plus (addP b x y).1).sum ≤ 100000000 := by show ¬ x.sum + (addP b x y).1 ≤ 100000000; omega
    simpa using h3⟩
def leftAt (b : Bas) (xs : List Holding) (ys : List Int) (k : Nat) : Int := ((List.zipWith (fun h y => y - h.count * (addP b h y).2) xs ys).take k).sum
theorem leftAt_succ {b : Bas} {xs : List Holding} {ys : List Int} {k : Nat} {x : Holding} {y : Int} (h1 : xs[k]? = some x) (h2 : ys[k]? = some y) : leftAt b xs ys (k + 1) = leftAt b xs ys k + (y - x.count * (addP b x y).2) :=
  sum_snoc (zip_get h1 h2)
theorem leftAt_bound {b : Bas} {xs : List Holding} {ys : List Int} (hl : xs.length ≤ 30) (hh : ∀ x ∈ xs, holdB b x = true) (hy : ∀ y ∈ ys, 0 ≤ y ∧ y ≤ 1000000000) (k : Nat) : -4000000000000000000 ≤ leftAt b xs ys k ∧ leftAt b xs ys k ≤ 4000000000000000000 :=
  (sums_of (n := 30) (hi := 1000000000) (by omega) (by simp; omega) (fun v hv => by
    obtain ⟨i, hi⟩ := List.mem_iff_getElem?.1 hv
    rw [List.getElem?_zipWith] at hi
    cases hx : xs[i]? with
    | none => simp [hx] at hi
    | some x =>
      cases hy' : ys[i]? with
      | none => simp [hx, hy'] at hi
      | some y =>
        simp only [hx, hy', Option.some.injEq] at hi
        subst hi
        have hb := hy y (List.mem_of_getElem? hy')
        have := addP_bound (hh x (List.mem_of_getElem? hx)) hb
        omega) (by omega)).1 k
end Go.Proofs.Ytbjdbpdgacfcpaa
end

/- Prices of assurances that need be no policies: the program's contracts. -/
section
namespace Go.Proofs.Ytbjdbpdgacfcpaa
open Go.RowKit Go.BigFrame

structure AssOk (b : Bas) (kind age n sum : Int) : Prop where
  kind0 : 0 ≤ kind
  kind1 : kind ≤ 3
  age0 : b.first ≤ age
  age1 : age ≤ 150
  sum0 : 1 ≤ sum
  sum1 : sum ≤ 100000000
  yrs0 : 0 ≤ n
  yrs1 : n ≤ 120
  end1 : age + n ≤ 150
  zero : n = 0 ↔ kind = 0
theorem assur_ok {b : Bas} {kind age n sum : Int} (h : assurB b kind age n sum = true) : AssOk b kind age n sum := by
  simp only [assurB, Bool.and_eq_true, inR_true, decide_eq_true_eq, beq_iff_eq, decide_eq_decide] at h
  obtain ⟨⟨k0, k1⟩, _, ⟨a0, a1⟩, ⟨s0, s1⟩, ⟨y0, y1⟩, e1, z⟩ := h
  exact ⟨k0, k1, a0, a1, s0, s1, y0, y1, e1, z⟩
theorem assur_mk {b : Bas} {kind age n sum : Int} (hr : 0 ≤ b.rate ∧ b.rate ≤ 200) (h : AssOk b kind age n sum) : assurB b kind age n sum = true := by
  simp only [assurB, Bool.and_eq_true, inR_true, decide_eq_true_eq, beq_iff_eq, decide_eq_decide]
  exact ⟨⟨h.kind0, h.kind1⟩, hr, ⟨h.age0, h.age1⟩, ⟨h.sum0, h.sum1⟩, ⟨h.yrs0, h.yrs1⟩, h.end1, h.zero⟩
set_option maxHeartbeats 4000000 in
theorem impl_checkAssurance_at (b : Bas) (A : Option Addr) (n cap : Nat) (p : Policy) (w : World) (hB : BasT w A n cap b) (hbs : basisB b = true) (has : assurB b p.kind p.age p.years p.sum = true) (hdd : b.d p.age ≠ 0) :
    Calls Try.prog 67 #[.agg #[.int .i64 b.first, .slice A n cap], .int .i64 b.rate, .int .i64 p.kind, .int .i64 p.age, .int .i64 p.years, .int .i64 p.sum] w fun e w' =>
      e = .returned (.tuple #[.agg #[.int .i64 (b.top p.kind p.age p.years), .int .i64 (b.d p.age), .int .i64 (b.base p.kind p.age p.years)], .int .i64 0]) ∧ Below w.heap.size w w' := by
  have hbw := boxes_below (w := w) (X := [.int .i64 b.first, .slice A n cap]) (Y := [.int .i64 0, .int .i64 0, .int .i64 0]) (tx := 26) (ty := 73)
  have HB := Lib.hid ((Blk.new w 26 #[.int .i64 b.first, .slice A n cap]).alloc (.cells #[.int .i64 0, .int .i64 0, .int .i64 0] 73))
  have HR := Lib.hid (Blk.new (w.alloc (.cells #[.int .i64 b.first, .slice A n cap] 26)) 73 #[.int .i64 0, .int .i64 0, .int .i64 0])
  rw [World.size_alloc] at HR
  have HBT := Lib.hid (hB.past hbw); clear hB
  have B := basis_ok hbs
  have Q := assur_ok has
  have hpp : (tableB b.first b.lives = true ∧ inR b.rate 0 200 = true) ∧ assurB b p.kind p.age p.years p.sum = true ∧ True := ⟨by simpa [basisB, Bool.and_eq_true] using hbs, has, trivial⟩
  have HPP := Lib.hid hpp; clear hpp
  have a1 := Q.age0; have a2 := Q.age1; have y1 := Q.yrs0; have y2 := Q.yrs1; have e1 := Q.end1; have f1 := B.tab.first0; have f2 := B.tab.first1
  have hd : 1 ≤ b.d p.age := by have := d_bound B p.age; omega
  have HPO := Lib.hid B; clear B Q hdd has hbs
  have QB := Lib.hid (ben_top (b := b) (kind := p.kind) (age := p.age) (n := p.years) a1 y1)
  obtain ⟨k, hk⟩ := Int.eq_ofNat_of_zero_le (show 0 ≤ p.age - b.first by omega)
  obtain ⟨m, hm⟩ := Int.eq_ofNat_of_zero_le (show 0 ≤ p.age + p.years - b.first by omega)
  have HE0 := Lib.hid (show b.ix p.age = k by unfold Bas.ix; omega)
  have HE1 := Lib.hid (show b.ix (p.age + p.years) = m by unfold Bas.ix; omega)
  have QD := Lib.hid (show b.d p.age = dC b.lives b.rate k by unfold Bas.d; rw [HE0.out])
  rw [HE0.out, HE1.out] at QB
  rw [QD.out] at hd
  have hkt : k < (151 - b.first).toNat := by omega
  have hmt : m < (151 - b.first).toNat := by omega
  have htop : (((151 - b.first).toNat : Nat) : Int) = 151 - b.first := by omega
  obtain ⟨top, htp⟩ : ∃ top, (151 - b.first).toNat = top := ⟨_, rfl⟩
  rw [htp] at hkt hmt htop
  have HTP := Lib.hid htp; clear htp
  have hki : (k : Int) < (top : Int) := by omega
  have hmi : (m : Int) < (top : Int) := by omega
  clear htop
  go_enter Try.func67, Try.ntmps67
  go_wp2_with fail
  refine (impl_IsLifeTable_any b.first A n cap b.lives _ HBT.out.lives HBT.out.cap HBT.out.first).mono ?_
  rw [HPP.out.1.1]
  rintro e w1 ⟨rfl, hb1⟩
  have HB1 := Lib.hid (HB.out.below' hb1)
  have HR1 := Lib.hid (HR.out.below' hb1)
  have HBT1 := Lib.hid (HBT.out.past hb1)
  have hbw1 := hbw.trans (hb1.mono hbw.size)
  have hcT := Lib.hid (Blk.agg (cs := [.int .i64 b.first, .slice A n cap]) HB1.out 0 [.int .i64 b.first, .slice A n cap] rfl)
  go_wp2_with (refine wpList_load_agg rfl 26 _ rfl ⟨w.heap.size, 0, none⟩ rfl [.int .i64 b.first, .slice A n cap] hcT.out _ Try.underlying26 rfl Tab.size ?_)
  clear hcT
  refine (impl_isAssurance_any b A n cap p.kind p.age p.years p.sum _ ⟨by omega, by omega⟩).mono ?_
  rw [HPP.out.2.1]
  rintro e w2 ⟨rfl, hb2⟩
  have HB2 := Lib.hid (HB1.out.below' hb2)
  have HR2 := Lib.hid (HR1.out.below' hb2)
  have HBT2 := Lib.hid (HBT1.out.past hb2)
  have hbw2 := hbw1.trans (hb2.mono hbw1.size)
  have hcT := Lib.hid (Blk.agg (cs := [.int .i64 b.first, .slice A n cap]) HB2.out 0 [.int .i64 b.first, .slice A n cap] rfl)
  go_wp2_with (refine wpList_load_agg rfl 26 _ rfl ⟨w.heap.size, 0, none⟩ rfl [.int .i64 b.first, .slice A n cap] hcT.out _ Try.underlying26 rfl Tab.size ?_)
  clear hcT
  refine (impl_columnsOf_any b.first A n cap b.lives b.rate _ HBT2.out.lives HPO.out.tab ⟨HPO.out.rate0, HPO.out.rate1⟩).mono ?_
  rw [HTP.out]
  rintro e w3 ⟨g, rfl, hL, hb3⟩
  have HB3 := Lib.hid (HB2.out.below' hb3)
  have HR3 := Lib.hid (HR2.out.below' hb3)
  have hbw3 := hbw2.trans (hb3.mono hbw2.size)
  obtain ⟨ad, had0, hadB, _, hc1⟩ := hL.at' (colRows_get (xs := b.lives) (rate := b.rate) hkt)
  obtain ⟨ad', had1, _, _, hc2⟩ := hL.at' (colRows_get (xs := b.lives) (rate := b.rate) hmt)
  obtain rfl : ad' = ad := by rw [had0] at had1; injection had1 with had1; exact had1.symm
  rw [had0] at *
  have b0 : w3.cell? ⟨w.heap.size, 0, none⟩ = some (.int .i64 b.first) := HB3.out.cell 0
  have u0 : w3.cell? (ad'.add (k * 4)) = some (.int .i64 (dC b.lives b.rate k)) := by have := hc1 0 _ rfl; rwa [Addr.add_zero'] at this
  have u1 : w3.cell? ⟨(ad'.add (k * 4)).block, (ad'.add (k * 4)).off + 1, none⟩ = some (.int .i64 (nC b.lives b.rate k)) := hc1 1 _ rfl
  have u2 : w3.cell? ⟨(ad'.add (k * 4)).block, (ad'.add (k * 4)).off + 2, none⟩ = some (.int .i64 (cC b.lives b.rate k)) := hc1 2 _ rfl
  have u3 : w3.cell? ⟨(ad'.add (k * 4)).block, (ad'.add (k * 4)).off + 3, none⟩ = some (.int .i64 (mC b.lives b.rate k)) := hc1 3 _ rfl
  have v0 : w3.cell? (ad'.add (m * 4)) = some (.int .i64 (dC b.lives b.rate m)) := by have := hc2 0 _ rfl; rwa [Addr.add_zero'] at this
  have v1 : w3.cell? ⟨(ad'.add (m * 4)).block, (ad'.add (m * 4)).off + 1, none⟩ = some (.int .i64 (nC b.lives b.rate m)) := hc2 1 _ rfl
  have v2 : w3.cell? ⟨(ad'.add (m * 4)).block, (ad'.add (m * 4)).off + 2, none⟩ = some (.int .i64 (cC b.lives b.rate m)) := hc2 2 _ rfl
  have v3 : w3.cell? ⟨(ad'.add (m * 4)).block, (ad'.add (m * 4)).off + 3, none⟩ = some (.int .i64 (mC b.lives b.rate m)) := hc2 3 _ rfl
  clear hc1 hc2
  have hs3 : w.heap.size < w3.heap.size := HB3.out.lt
  have hs4 : w.heap.size + 1 < w3.heap.size := HR3.out.lt
  have hs5 : (ad'.add (k * 4)).block < w3.heap.size := by rw [block_of_add]; exact hadB
  have hs6 : (ad'.add (m * 4)).block < w3.heap.size := by rw [block_of_add]; exact hadB
  have hk0 : 0 ≤ (k : Int) := by omega
  have hm0 : 0 ≤ (m : Int) := by omega
  go_wp2
  go_region
  · obtain ⟨w4, hw4⟩ : ∃ w4, ((w3.alloc (.cells #[.int .i64 (dC b.lives b.rate k), .int .i64 (nC b.lives b.rate k), .int .i64 (cC b.lives b.rate k), .int .i64 (mC b.lives b.rate k)] 116)).alloc (.cells #[.int .i64 (dC b.lives b.rate m), .int .i64 (nC b.lives b.rate m), .int .i64 (cC b.lives b.rate m), .int .i64 (mC b.lives b.rate m)] 116)).drew = w4 := ⟨_, rfl⟩
    have Hf := Lib.hid (((Blk.new w3 116 #[.int .i64 (dC b.lives b.rate k), .int .i64 (nC b.lives b.rate k), .int .i64 (cC b.lives b.rate k), .int .i64 (mC b.lives b.rate k)]).alloc (.cells #[.int .i64 (dC b.lives b.rate m), .int .i64 (nC b.lives b.rate m), .int .i64 (cC b.lives b.rate m), .int .i64 (mC b.lives b.rate m)] 116)).drew)
    have Hs := Lib.hid ((Blk.new (w3.alloc (.cells #[.int .i64 (dC b.lives b.rate k), .int .i64 (nC b.lives b.rate k), .int .i64 (cC b.lives b.rate k), .int .i64 (mC b.lives b.rate k)] 116)) 116 #[.int .i64 (dC b.lives b.rate m), .int .i64 (nC b.lives b.rate m), .int .i64 (cC b.lives b.rate m), .int .i64 (mC b.lives b.rate m)]).drew)
    rw [World.size_alloc] at Hs
    have HR4 := Lib.hid (((HR3.out.alloc (.cells #[.int .i64 (dC b.lives b.rate k), .int .i64 (nC b.lives b.rate k), .int .i64 (cC b.lives b.rate k), .int .i64 (mC b.lives b.rate k)] 116)).alloc (.cells #[.int .i64 (dC b.lives b.rate m), .int .i64 (nC b.lives b.rate m), .int .i64 (cC b.lives b.rate m), .int .i64 (mC b.lives b.rate m)] 116)).drew)
    have hb4 : Below w3.heap.size w3 w4 := by rw [← hw4]; exact (((Below.refl _ w3).alloc (Nat.le_refl _) _).alloc (by simp) _).drew
    rw [hw4] at Hf Hs HR4
    rw [hw4]
    clear hw4 u0 u1 u2 u3 v0 v1 v2 v3 b0
    have n0 : w4.cell? ⟨w3.heap.size, 0, none⟩ = some (.int .i64 (dC b.lives b.rate k)) := Hf.out.cell 0
    have hcN := Lib.hid (Blk.agg (cs := [.int .i64 (dC b.lives b.rate k), .int .i64 (nC b.lives b.rate k), .int .i64 (cC b.lives b.rate k), .int .i64 (mC b.lives b.rate k)]) Hf.out 0 [.int .i64 (dC b.lives b.rate k), .int .i64 (nC b.lives b.rate k), .int .i64 (cC b.lives b.rate k), .int .i64 (mC b.lives b.rate k)] rfl)
    have hcL := Lib.hid (Blk.agg (cs := [.int .i64 (dC b.lives b.rate m), .int .i64 (nC b.lives b.rate m), .int .i64 (cC b.lives b.rate m), .int .i64 (mC b.lives b.rate m)]) Hs.out 0 [.int .i64 (dC b.lives b.rate m), .int .i64 (nC b.lives b.rate m), .int .i64 (cC b.lives b.rate m), .int .i64 (mC b.lives b.rate m)] rfl)
    have hdz : ¬ dC b.lives b.rate k = 0 := by omega
    have z1 := nC_bound HPO.out.tab HPO.out.rate0 k; have z2 := mC_bound HPO.out.tab HPO.out.rate0 k; have z3 := nC_bound HPO.out.tab HPO.out.rate0 m; have z4 := mC_bound HPO.out.tab HPO.out.rate0 m; have z5 := dC_bound HPO.out.tab HPO.out.rate0 k; have z6 := dC_bound HPO.out.tab HPO.out.rate0 m
    go_wp2_with (first | (refine wpList_load_agg rfl 116 _ rfl ⟨w3.heap.size, 0, none⟩ rfl [.int .i64 (dC b.lives b.rate k), .int .i64 (nC b.lives b.rate k), .int .i64 (cC b.lives b.rate k), .int .i64 (mC b.lives b.rate k)] hcN.out _ Try.underlying116 rfl Columns.size ?_) | (refine wpList_load_agg rfl 116 _ rfl ⟨(w3.heap.size + 1), 0, none⟩ rfl [.int .i64 (dC b.lives b.rate m), .int .i64 (nC b.lives b.rate m), .int .i64 (cC b.lives b.rate m), .int .i64 (mC b.lives b.rate m)] hcL.out _ Try.underlying116 rfl Columns.size ?_))
    refine (impl_benefits_any p.kind (dC b.lives b.rate k) (nC b.lives b.rate k) (cC b.lives b.rate k) (mC b.lives b.rate k) (dC b.lives b.rate m) (nC b.lives b.rate m) (cC b.lives b.rate m) (mC b.lives b.rate m) _ ⟨by omega, by omega⟩ ⟨by omega, by omega⟩ ⟨by omega, by omega⟩ ⟨by omega, by omega⟩ ⟨by omega, by omega⟩).mono ?_
    rw [QB.out.1, QB.out.2]
    rintro e w5 ⟨rfl, hb5⟩
    have HN5 := Lib.hid (Hf.out.below' hb5)
    have HR5 := Lib.hid (HR4.out.below' hb5)
    have n5 : w5.cell? ⟨w3.heap.size, 0, none⟩ = some (.int .i64 (dC b.lives b.rate k)) := HN5.out.cell 0
    clear n0 hcN hcL
    have H1c : Hid (∀ v ∈ ([.int .i64 (b.top p.kind p.age p.years), .int .i64 (dC b.lives b.rate k), .int .i64 (b.base p.kind p.age p.years)] : List Value), v.oneCell' = true) := Lib.hid (by simp [Value.oneCell'])
    go_wp2_with (refine wpList_store_agg rfl 73 _ _ rfl (w.heap.size + 1) 0 [.int .i64 (b.top p.kind p.age p.years), .int .i64 (dC b.lives b.rate k), .int .i64 (b.base p.kind p.age p.years)] rfl rfl 73 #[.int .i64 0, .int .i64 0, .int .i64 0] HR5.out PriceParts.size (by simp) H1c.out ?_)
    intro w6 hR6 hg6 _
    have hR6' : Blk w6 (w.heap.size + 1) 73 #[.int .i64 (b.top p.kind p.age p.years), .int .i64 (dC b.lives b.rate k), .int .i64 (b.base p.kind p.age p.years)] := hR6
    have r0 : w6.cell? ⟨w.heap.size + 1, 0, none⟩ = some (.int .i64 (b.top p.kind p.age p.years)) := hR6'.cell 0
    have r1 : w6.cell? ⟨w.heap.size + 1, 1, none⟩ = some (.int .i64 (dC b.lives b.rate k)) := hR6'.cell 1
    have r2 : w6.cell? ⟨w.heap.size + 1, 2, none⟩ = some (.int .i64 (b.base p.kind p.age p.years)) := hR6'.cell 2
    go_wp2
    have hx : Below w.heap.size w w5 := hbw3.trans ((hb4.mono hbw3.size).trans (hb5.mono (Nat.le_trans hbw3.size hb4.size)))
    refine bodyPost_ret (v := .tuple #[.agg #[.int .i64 (b.top p.kind p.age p.years), .int .i64 (dC b.lives b.rate k), .int .i64 (b.base p.kind p.age p.years)], .int .i64 0]) (by simp [results, Try.results67, go_sem, r0, r1, r2]) rfl ⟨by rw [QD.out], hx.grown hg6 hx.size (fun k hk => by injection hk with hk; omega)⟩
  · obtain ⟨w4, hw4⟩ : ∃ w4, ((w3.alloc (.cells #[.int .i64 (dC b.lives b.rate m), .int .i64 (nC b.lives b.rate m), .int .i64 (cC b.lives b.rate m), .int .i64 (mC b.lives b.rate m)] 116)).alloc (.cells #[.int .i64 (dC b.lives b.rate k), .int .i64 (nC b.lives b.rate k), .int .i64 (cC b.lives b.rate k), .int .i64 (mC b.lives b.rate k)] 116)).drew = w4 := ⟨_, rfl⟩
    have Hf := Lib.hid (((Blk.new w3 116 #[.int .i64 (dC b.lives b.rate m), .int .i64 (nC b.lives b.rate m), .int .i64 (cC b.lives b.rate m), .int .i64 (mC b.lives b.rate m)]).alloc (.cells #[.int .i64 (dC b.lives b.rate k), .int .i64 (nC b.lives b.rate k), .int .i64 (cC b.lives b.rate k), .int .i64 (mC b.lives b.rate k)] 116)).drew)
    have Hs := Lib.hid ((Blk.new (w3.alloc (.cells #[.int .i64 (dC b.lives b.rate m), .int .i64 (nC b.lives b.rate m), .int .i64 (cC b.lives b.rate m), .int .i64 (mC b.lives b.rate m)] 116)) 116 #[.int .i64 (dC b.lives b.rate k), .int .i64 (nC b.lives b.rate k), .int .i64 (cC b.lives b.rate k), .int .i64 (mC b.lives b.rate k)]).drew)
    rw [World.size_alloc] at Hs
    have HR4 := Lib.hid (((HR3.out.alloc (.cells #[.int .i64 (dC b.lives b.rate m), .int .i64 (nC b.lives b.rate m), .int .i64 (cC b.lives b.rate m), .int .i64 (mC b.lives b.rate m)] 116)).alloc (.cells #[.int .i64 (dC b.lives b.rate k), .int .i64 (nC b.lives b.rate k), .int .i64 (cC b.lives b.rate k), .int .i64 (mC b.lives b.rate k)] 116)).drew)
    have hb4 : Below w3.heap.size w3 w4 := by rw [← hw4]; exact (((Below.refl _ w3).alloc (Nat.le_refl _) _).alloc (by simp) _).drew
    rw [hw4] at Hf Hs HR4
    rw [hw4]
    clear hw4 u0 u1 u2 u3 v0 v1 v2 v3 b0
    have n0 : w4.cell? ⟨(w3.heap.size + 1), 0, none⟩ = some (.int .i64 (dC b.lives b.rate k)) := Hs.out.cell 0
    have hcN := Lib.hid (Blk.agg (cs := [.int .i64 (dC b.lives b.rate k), .int .i64 (nC b.lives b.rate k), .int .i64 (cC b.lives b.rate k), .int .i64 (mC b.lives b.rate k)]) Hs.out 0 [.int .i64 (dC b.lives b.rate k), .int .i64 (nC b.lives b.rate k), .int .i64 (cC b.lives b.rate k), .int .i64 (mC b.lives b.rate k)] rfl)
    have hcL := Lib.hid (Blk.agg (cs := [.int .i64 (dC b.lives b.rate m), .int .i64 (nC b.lives b.rate m), .int .i64 (cC b.lives b.rate m), .int .i64 (mC b.lives b.rate m)]) Hf.out 0 [.int .i64 (dC b.lives b.rate m), .int .i64 (nC b.lives b.rate m), .int .i64 (cC b.lives b.rate m), .int .i64 (mC b.lives b.rate m)] rfl)
    have hdz : ¬ dC b.lives b.rate k = 0 := by omega
    have z1 := nC_bound HPO.out.tab HPO.out.rate0 k; have z2 := mC_bound HPO.out.tab HPO.out.rate0 k; have z3 := nC_bound HPO.out.tab HPO.out.rate0 m; have z4 := mC_bound HPO.out.tab HPO.out.rate0 m; have z5 := dC_bound HPO.out.tab HPO.out.rate0 k; have z6 := dC_bound HPO.out.tab HPO.out.rate0 m
    go_wp2_with (first | (refine wpList_load_agg rfl 116 _ rfl ⟨(w3.heap.size + 1), 0, none⟩ rfl [.int .i64 (dC b.lives b.rate k), .int .i64 (nC b.lives b.rate k), .int .i64 (cC b.lives b.rate k), .int .i64 (mC b.lives b.rate k)] hcN.out _ Try.underlying116 rfl Columns.size ?_) | (refine wpList_load_agg rfl 116 _ rfl ⟨w3.heap.size, 0, none⟩ rfl [.int .i64 (dC b.lives b.rate m), .int .i64 (nC b.lives b.rate m), .int .i64 (cC b.lives b.rate m), .int .i64 (mC b.lives b.rate m)] hcL.out _ Try.underlying116 rfl Columns.size ?_))
    refine (impl_benefits_any p.kind (dC b.lives b.rate k) (nC b.lives b.rate k) (cC b.lives b.rate k) (mC b.lives b.rate k) (dC b.lives b.rate m) (nC b.lives b.rate m) (cC b.lives b.rate m) (mC b.lives b.rate m) _ ⟨by omega, by omega⟩ ⟨by omega, by omega⟩ ⟨by omega, by omega⟩ ⟨by omega, by omega⟩ ⟨by omega, by omega⟩).mono ?_
    rw [QB.out.1, QB.out.2]
    rintro e w5 ⟨rfl, hb5⟩
    have HN5 := Lib.hid (Hs.out.below' hb5)
    have HR5 := Lib.hid (HR4.out.below' hb5)
    have n5 : w5.cell? ⟨(w3.heap.size + 1), 0, none⟩ = some (.int .i64 (dC b.lives b.rate k)) := HN5.out.cell 0
    clear n0 hcN hcL
    have H1c : Hid (∀ v ∈ ([.int .i64 (b.top p.kind p.age p.years), .int .i64 (dC b.lives b.rate k), .int .i64 (b.base p.kind p.age p.years)] : List Value), v.oneCell' = true) := Lib.hid (by simp [Value.oneCell'])
    go_wp2_with (refine wpList_store_agg rfl 73 _ _ rfl (w.heap.size + 1) 0 [.int .i64 (b.top p.kind p.age p.years), .int .i64 (dC b.lives b.rate k), .int .i64 (b.base p.kind p.age p.years)] rfl rfl 73 #[.int .i64 0, .int .i64 0, .int .i64 0] HR5.out PriceParts.size (by simp) H1c.out ?_)
    intro w6 hR6 hg6 _
    have hR6' : Blk w6 (w.heap.size + 1) 73 #[.int .i64 (b.top p.kind p.age p.years), .int .i64 (dC b.lives b.rate k), .int .i64 (b.base p.kind p.age p.years)] := hR6
    have r0 : w6.cell? ⟨w.heap.size + 1, 0, none⟩ = some (.int .i64 (b.top p.kind p.age p.years)) := hR6'.cell 0
    have r1 : w6.cell? ⟨w.heap.size + 1, 1, none⟩ = some (.int .i64 (dC b.lives b.rate k)) := hR6'.cell 1
    have r2 : w6.cell? ⟨w.heap.size + 1, 2, none⟩ = some (.int .i64 (b.base p.kind p.age p.years)) := hR6'.cell 2
    go_wp2
    have hx : Below w.heap.size w w5 := hbw3.trans ((hb4.mono hbw3.size).trans (hb5.mono (Nat.le_trans hbw3.size hb4.size)))
    refine bodyPost_ret (v := .tuple #[.agg #[.int .i64 (b.top p.kind p.age p.years), .int .i64 (dC b.lives b.rate k), .int .i64 (b.base p.kind p.age p.years)], .int .i64 0]) (by simp [results, Try.results67, go_sem, r0, r1, r2]) rfl ⟨by rw [QD.out], hx.grown hg6 hx.size (fun k hk => by injection hk with hk; omega)⟩

def priceP (b : Bas) (kind age n sum : Int) : Int := upP sum (b.top kind age n) (b.d age)
set_option maxHeartbeats 2000000 in
theorem impl_AssurancePrice_at (b : Bas) (A : Option Addr) (n cap : Nat) (kind age yrs sum : Int) (w : World) (hB : BasT w A n cap b) (hbs : basisB b = true) (has : assurB b kind age yrs sum = true) (hdd : b.d age ≠ 0) :
    Calls Try.prog 16 #[.agg #[.int .i64 b.first, .slice A n cap], .int .i64 b.rate, .int .i64 kind, .int .i64 age, .int .i64 yrs, .int .i64 sum] w fun e w' =>
      e = .returned (.tuple #[.int .i64 (priceP b kind age yrs sum), .int .i64 0]) ∧ Below w.heap.size w w' := by
  have hbw : Below w.heap.size w (w.alloc (.cells #[.int .i64 b.first, .slice A n cap] 26)) := (Below.refl _ w).alloc (Nat.le_refl _) _
  have HBT := Lib.hid (hB.past hbw); clear hB
  have B := basis_ok hbs
  have t1 := top_bound B kind age yrs
  have t5 := d_bound B age
  have Q := assur_ok has
  have s1 := Q.sum0; have s2 := Q.sum1
  have t6 := mul_div_le (a := sum) (m := 1) (by omega) t1.1 (show 1 ≤ b.d age by omega) (by omega)
  go_enter Try.func16, Try.ntmps16
  go_wp2_with fail
  refine (impl_checkAssurance_at b A n cap ⟨kind, age, yrs, sum, 0⟩ _ HBT.out hbs has hdd).mono ?_
  rintro e w1 ⟨rfl, hb1⟩
  go_wp2_with fail
  refine (impl_priced_any sum (b.top kind age yrs) (b.d age) _ ⟨by omega, by omega⟩ ⟨by omega, by omega⟩ ⟨by omega, by omega⟩ (by omega)).mono ?_
  rintro e w2 ⟨rfl, hb2⟩
  go_wp2
  go_ret2
  exact ⟨rfl, hbw.trans ((hb1.mono (by simp)).trans (((Below.refl _ w1).alloc (Nat.le_refl _) _).trans (hb2.mono (by simp)) |>.mono (by have := hb1.size; simp at this; omega)))⟩
end Go.Proofs.Ytbjdbpdgacfcpaa
end

/- Plain laws of additions: an addition costs at most the bonus; what is left over is never negative; holdings with additions are a portfolio. -/
section
namespace Go.Proofs.Ytbjdbpdgacfcpaa
open Go.RowKit Go.BigFrame

theorem port_one {b : Bas} {h : Holding} (H : portB b [h] = true) : basisB b = true ∧ holdB b h = true := by
  simp only [portB, Bool.and_eq_true, List.all_cons, List.all_nil, Bool.and_true] at H
  exact ⟨H.1, H.2.2⟩
theorem addFor_good {b : Bas} {h : Holding} {x : Int} (H : (addForP b h x).2 = 0) (hp : 0 < (addForP b h x).1) :
    basisB b = true ∧ assurB b h.kind (h.age + h.year) (leftP h.pol h.year) (addForP b h x).1 = true ∧ b.d (h.age + h.year) ≠ 0 ∧
    0 ≤ priceP b h.kind (h.age + h.year) (leftP h.pol h.year) (addForP b h x).1 * h.count ∧ priceP b h.kind (h.age + h.year) (leftP h.pol h.year) (addForP b h x).1 * h.count ≤ x ∧ x ≤ 1000000000 ∧ (0 ≤ h.year ∧ h.year ≤ 200) ∧ (0 ≤ h.age ∧ h.age ≤ 150) ∧ (0 ≤ h.years ∧ h.years ≤ 120) := by
  unfold addForP at H hp ⊢
  by_cases h1 : portB b [h] = true
  rotate_left
  · rw [if_neg h1] at H; simp at H
  rw [if_pos h1] at H hp ⊢
  by_cases h2 : inR x 0 1000000000 = true
  rotate_left
  · rw [if_neg h2] at H; simp at H
  rw [if_pos h2] at H hp ⊢
  by_cases h3 : h.count = 0
  · rw [if_pos h3] at H; simp at H
  rw [if_neg h3] at hp ⊢
  obtain ⟨hbs, hh⟩ := port_one h1
  have hx := inR_true.1 h2
  obtain ⟨⟨c0, c1⟩, Y⟩ := hold_ok hh
  have hb := addP_bound hh hx
  simp only at hp ⊢
  have e : addP b h x = addQ (x / h.count) (partT b h.pol h.year) (partD b h.pol h.year) := by unfold addP; rw [if_neg h3]
  have hq : (addP b h x).2 = priceP b h.kind (h.age + h.year) (leftP h.pol h.year) (addP b h x).1 := by
    rw [e]
    unfold addQ
    split
    · rename_i h0
      rw [e] at hp
      unfold addQ at hp
      rw [if_pos h0] at hp
      simp at hp
    · rfl
  rw [← hq, Int.mul_comm]
  have y0 := Y.k0; have y1 := Y.k1
  have hd := dur_bound Y.toPolOk
  have P := Y.toPolOk
  have B := P.toBasOk
  have k0 : 0 ≤ h.kind := P.kind0
  have k1 : h.kind ≤ 3 := P.kind1
  have a0 : b.first ≤ h.age := P.age0
  have a1 : h.age ≤ 150 := P.age1
  have n0 : 0 ≤ h.years := P.yrs0
  have n1 : h.years ≤ 120 := P.yrs1
  have e1 : h.age + h.years ≤ 150 := P.end1
  have z : h.years = 0 ↔ h.kind = 0 := P.zero
  have f0 := B.tab.first0
  have hdur : durP b h.pol = if h.kind = 0 then b.last - h.age else h.years := rfl
  have hlast : b.last = b.first + (b.lives.length : Int) - 1 := rfl
  have htop := B.tab.top
  have hl : leftP h.pol h.year = if h.kind = 0 then 0 else h.years - h.year := rfl
  refine ⟨hbs, assur_mk ⟨B.rate0, B.rate1⟩ ?_, (show b.d (h.pol.age + h.year) ≠ 0 by have := Y.d1; omega), hb.2.2.2.1, hb.2.2.2.2, hx.2, ?_, ?_, ?_⟩
  · rw [hl]
    by_cases hk : h.kind = 0
    · rw [if_pos hk] at hdur ⊢
      exact ⟨k0, k1, by omega, by omega, by omega, by omega, by omega, by omega, by omega, by omega⟩
    · rw [if_neg hk] at hdur ⊢
      exact ⟨k0, k1, by omega, by omega, by omega, by omega, by omega, by omega, by omega, by omega⟩
  · omega
  · omega
  · omega

theorem hold_plus {b : Bas} {h : Holding} {q : Int} (H : holdB b h = true) (hq : 0 ≤ q) (hs : h.sum + q ≤ 100000000) : holdB b (h.plus q) = true := by
  simp only [holdB, Bool.and_eq_true, beq_iff_eq] at H ⊢
  refine ⟨H.1, ?_⟩
  have hc := H.2
  have hpb : polB b h.pol = true := by
    unfold resCode at hc
    by_cases h0 : polB b h.pol = true
    · exact h0
    · rw [if_neg h0] at hc; simp at hc
  have P := pol_ok hpb
  have s0 : 1 ≤ h.sum := P.sum0
  have hpb2 : polB b (h.plus q).pol = true := by
    simp only [polB, assurB, Bool.and_eq_true] at hpb ⊢
    obtain ⟨p1, ⟨p2, p3, p4, p5, p6⟩, p7, p8⟩ := hpb
    exact ⟨p1, ⟨p2, p3, p4, by rw [inR_true]; show 1 ≤ h.sum + q ∧ h.sum + q ≤ 100000000; omega, p6⟩, p7, p8⟩
  unfold resCode at hc ⊢
  rw [if_pos hpb] at hc
  rw [if_pos hpb2]
  exact hc
theorem adds_good {b : Bas} {xs : List Holding} {ys : List Int} (H : (addsP b xs ys).2.2 = 0) :
    portB b xs = true ∧ ys.length = xs.length ∧ (∀ y ∈ ys, 0 ≤ y ∧ y ≤ 1000000000) ∧ addsP b xs ys = (addH b xs ys, addLeft b xs ys, 0) ∧ (0 ≤ addLeft b xs ys ∧ addLeft b xs ys ≤ ys.sum) ∧ portB b (addH b xs ys) = true ∧
    (∀ (k : Nat) (x z : Holding), xs[k]? = some x → (addH b xs ys)[k]? = some z → x.sum ≤ z.sum ∧ z.count = x.count ∧ z.year = x.year) := by
  unfold addsP at H ⊢
  by_cases h1 : portB b xs = true
  rotate_left
  · rw [if_neg h1] at H; simp at H
  rw [if_pos h1] at H ⊢
  by_cases h2 : ys.length = xs.length ∧ ys.all (fun y => inR y 0 1000000000) = true
  rotate_left
  · rw [if_neg h2] at H; simp at H
  rw [if_pos h2] at H ⊢
  by_cases h3 : addB b xs ys = true
  rotate_left
  · rw [if_neg h3] at H; simp at H
  rw [if_pos h3]
  have hy : ∀ y ∈ ys, 0 ≤ y ∧ y ≤ 1000000000 := fun y hy' => inR_true.1 (List.all_eq_true.1 h2.2 y hy')
  obtain ⟨hl, hh⟩ := port_hold h1
  have hB : ∀ z ∈ addH b xs ys, z.sum ≤ 100000000 := fun z hz => by
    have := List.all_eq_true.1 h3 z hz
    simpa using this
  refine ⟨h1, h2.1, hy, rfl, ?_, ?_, ?_⟩
  · have key : ∀ (xs : List Holding) (ys : List Int), (∀ x ∈ xs, holdB b x = true) → (∀ y ∈ ys, 0 ≤ y ∧ y ≤ 1000000000) → ys.length = xs.length → 0 ≤ addLeft b xs ys ∧ addLeft b xs ys ≤ ys.sum := by
      intro xs
      induction xs with
      | nil =>
        intro ys _ _ hl
        have : ys = [] := List.eq_nil_of_length_eq_zero (by simpa using hl)
        subst this
        simp [addLeft]
      | cons x xs ih =>
        intro ys hx hy hl
        match ys, hl, hy with
        | y :: ys, hl, hy =>
          have h4 := ih ys (fun z hz => hx z (by simp [hz])) (fun z hz => hy z (by simp [hz])) (by simpa using hl)
          have h5 := addP_bound (hx x (by simp)) (hy y (by simp))
          have e : addLeft b (x :: xs) (y :: ys) = (y - x.count * (addP b x y).2) + addLeft b xs ys := by simp [addLeft]
          rw [e, List.sum_cons]
          omega
    exact key xs ys hh hy h2.1
  · simp only [portB, Bool.and_eq_true, decide_eq_true_eq, List.all_eq_true]
    refine ⟨by simp only [portB, Bool.and_eq_true] at h1; exact h1.1, by simp [addH]; omega, fun z hz => ?_⟩
    obtain ⟨k, hk⟩ := List.mem_iff_getElem?.1 hz
    unfold addH at hk
    rw [List.getElem?_zipWith] at hk
    cases hx : xs[k]? with
    | none => simp [hx] at hk
    | some x =>
      cases hy' : ys[k]? with
      | none => simp [hx, hy'] at hk
      | some y =>
        simp only [hx, hy', Option.some.injEq] at hk
        subst hk
        have hb := addP_bound (hh x (List.mem_of_getElem? hx)) (hy y (List.mem_of_getElem? hy'))
        exact hold_plus (hh x (List.mem_of_getElem? hx)) hb.1.1 (hB _ hz)
  · intro k x z hx hz
    unfold addH at hz
    rw [List.getElem?_zipWith, hx] at hz
    cases hy' : ys[k]? with
    | none => simp [hy'] at hz
    | some y =>
      simp only [hy', Option.some.injEq] at hz
      subst hz
      have hb := addP_bound (hh x (List.mem_of_getElem? hx)) (hy y (List.mem_of_getElem? hy'))
      exact ⟨by show x.sum ≤ x.sum + (addP b x y).1; omega, rfl, rfl⟩
theorem hold_fits {b : Bas} {h : Holding} (H : holdB b h = true) : h.fits := by
  obtain ⟨⟨c0, c1⟩, Y⟩ := hold_ok H
  have P := Y.toPolOk
  have k0 : 0 ≤ h.kind := P.kind0
  have k1 : h.kind ≤ 3 := P.kind1
  have a0 : b.first ≤ h.age := P.age0
  have a1 : h.age ≤ 150 := P.age1
  have n0 : 0 ≤ h.years := P.yrs0
  have n1 : h.years ≤ 120 := P.yrs1
  have s0 : 1 ≤ h.sum := P.sum0
  have s1 : h.sum ≤ 100000000 := P.sum1
  have l0 : 0 ≤ h.load := P.load0
  have l1 : h.load ≤ 1000 := P.load1
  have f0 := P.tab.first0
  have y0 := Y.k0; have y1 := Y.k1
  have hd := dur_bound P
  exact ⟨by unfold In64; omega, by unfold In64; omega, by unfold In64; omega, by unfold In64; omega, by unfold In64; omega, by unfold In64; omega, by unfold In64; omega⟩
theorem port_fits {b : Bas} {xs : List Holding} (H : portB b xs = true) : ∀ x ∈ xs, x.fits := fun x hx => hold_fits ((port_hold H).2 x hx)
theorem addH_small {b : Bas} {xs : List Holding} {ys : List Int} : (addH b xs ys).length ≤ xs.length := by simp [addH]; omega
end Go.Proofs.Ytbjdbpdgacfcpaa
end
