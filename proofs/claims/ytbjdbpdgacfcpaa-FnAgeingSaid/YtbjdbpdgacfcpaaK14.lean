/- Parts of a proof, one after another: AddP, Add. No condition. -/
import Derived.Test.YtbjdbpdgacfcpaaK10
import Derived.Test.YtbjdbpdgacfcpaaK13
/- What a bonus adds to a policy and what that is worth: plain functions and their laws. No program. -/
section
namespace Go.Proofs.Ytbjdbpdgacfcpaa
open Go.RowKit Go.BigFrame

/-- the addition to the sum of each policy, and its worth, from the parts of a reserve: a the cash for each -/
def addQ (a t d : Int) : Int × Int := if t = 0 then (0, 0) else (min (a * d / t) 100000000, upP (min (a * d / t) 100000000) t d)
def addP (b : Bas) (h : Holding) (x : Int) : Int × Int := if h.count = 0 then (0, 0) else addQ (x / h.count) (partT b h.pol h.year) (partD b h.pol h.year)
structure AddOk (a t d : Int) : Prop where
  a0 : 0 ≤ a
  a1 : a ≤ 1000000000
  t0 : 1 ≤ t
  t1 : t ≤ d
  d1 : d ≤ 1000000000000000
theorem add_quo {a t d : Int} (K : AddOk a t d) : 0 ≤ a * d / t := Int.ediv_nonneg (Int.mul_nonneg K.a0 (by have := K.t0; have := K.t1; omega)) (by have := K.t0; omega)
theorem add_up {q t d : Int} (hq : 0 ≤ q) (ht : 0 ≤ t) (hd : 1 ≤ d) (h : t ≤ d) : (0 ≤ q * t / d ∧ q * t / d ≤ q) ∧ 0 ≤ upP q t d ∧ upP q t d ≤ q := by
  have h1 := mul_div_le (m := 1) hq ht hd (by omega)
  rw [Int.mul_one] at h1
  exact ⟨h1, up_le hq ht hd h⟩
theorem add_low {a t d : Int} (h : ¬ a * d / t ≤ 1000000000000000000) : min (a * d / t) 100000000 = 100000000 := by omega
theorem addQ_bound {a t d : Int} (h : t = 0 ∨ AddOk a t d) : (0 ≤ (addQ a t d).1 ∧ (addQ a t d).1 ≤ 100000000) ∧ 0 ≤ (addQ a t d).2 ∧ (addQ a t d).2 ≤ 100000000 := by
  unfold addQ
  by_cases h0 : t = 0
  · rw [if_pos h0]; omega
  · rw [if_neg h0]
    rcases h with h | K
    · exact absurd h h0
    · have h1 := add_quo K
      have h2 := add_up (q := min (a * d / t) 100000000) (t := t) (d := d) (by omega) (by have := K.t0; omega) (by have := K.t0; have := K.t1; omega) K.t1
      simp only
      omega
/-- what one policy pays for its addition is at most its cash -/
theorem worth_le {a t d : Int} (K : AddOk a t d) : (addQ a t d).2 ≤ a := by
  have h0 : ¬ t = 0 := by have := K.t0; omega
  unfold addQ
  rw [if_neg h0]
  simp only
  have hd : 1 ≤ d := by have := K.t0; have := K.t1; omega
  have hq := add_quo K
  generalize hm : min (a * d / t) 100000000 = q
  have hq0 : 0 ≤ q := by omega
  have hq1 : q ≤ a * d / t := by omega
  have h1 : q * t ≤ a * d / t * t := Int.mul_le_mul_of_nonneg_right hq1 (by have := K.t0; omega)
  have h2 : a * d / t * t ≤ a * d := by
    have := Int.mul_ediv_add_emod (a * d) t
    have := Int.emod_nonneg (a * d) (show t ≠ 0 from h0)
    have e := Int.mul_comm t (a * d / t)
    have h8 := Int.emod_nonneg (a * d) h0
    omega
  have h3 : q * t ≤ a * d := by omega
  unfold upP
  have h4 := Int.mul_ediv_add_emod (q * t) d
  have h5 := Int.emod_nonneg (q * t) (show d ≠ 0 by omega)
  split
  · rename_i hr
    have : q * t / d < a := by
      rcases Int.lt_or_le (q * t / d) a with h6 | h6
      · exact h6
      · have h7 : d * a ≤ d * (q * t / d) := Int.mul_le_mul_of_nonneg_left h6 (by omega)
        rw [Int.mul_comm d a] at h7
        omega
    omega
  · have h6 : q * t / d ≤ a * d / d := Int.ediv_le_ediv (by omega) h3
    rw [Int.mul_ediv_cancel _ (by omega)] at h6
    omega
theorem add_ok {b : Bas} {h : Holding} {x : Int} (Y : YearOk b h.pol h.year) (hx : 0 ≤ x ∧ x ≤ 1000000000) (hc : 1 ≤ h.count) : partT b h.pol h.year = 0 ∨ AddOk (x / h.count) (partT b h.pol h.year) (partD b h.pol h.year) := by
  have h1 := top_bound Y.toBasOk h.pol.kind (h.pol.age + h.year) (leftP h.pol h.year)
  have h2 := d_bound Y.toBasOk (h.pol.age + h.year)
  have h3 : 0 ≤ x / h.count := Int.ediv_nonneg hx.1 (by omega)
  have h4 : x / h.count ≤ x := Int.ediv_le_self _ hx.1
  by_cases h0 : partT b h.pol h.year = 0
  · exact .inl h0
  · refine .inr ⟨h3, by omega, ?_, h1.2, h2.2⟩
    have := h1.1
    unfold partT at h0 ⊢
    omega
theorem addP_bound {b : Bas} {h : Holding} {x : Int} (H : holdB b h = true) (hx : 0 ≤ x ∧ x ≤ 1000000000) : (0 ≤ (addP b h x).1 ∧ (addP b h x).1 ≤ 100000000) ∧ 0 ≤ (addP b h x).2 ∧ (addP b h x).2 ≤ 100000000 ∧ 0 ≤ h.count * (addP b h x).2 ∧ h.count * (addP b h x).2 ≤ x := by
  obtain ⟨⟨c0, c1⟩, Y⟩ := hold_ok H
  unfold addP
  by_cases hc : h.count = 0
  · rw [if_pos hc, hc]; omega
  · rw [if_neg hc]
    have K := add_ok (x := x) Y hx (by omega)
    have h1 := addQ_bound K
    refine ⟨h1.1, h1.2.1, h1.2.2, Int.mul_nonneg c0 h1.2.1, ?_⟩
    rcases K with K | K
    · unfold addQ; rw [if_pos K]; simp; omega
    · have h2 := worth_le K
      have h3 : h.count * (addQ (x / h.count) (partT b h.pol h.year) (partD b h.pol h.year)).2 ≤ h.count * (x / h.count) := Int.mul_le_mul_of_nonneg_left h2 c0
      have h4 := Int.mul_ediv_add_emod x h.count
      have h5 := Int.emod_nonneg x hc
      omega
def addForP (b : Bas) (h : Holding) (x : Int) : Int × Int :=
  if portB b [h] = true then (if inR x 0 1000000000 = true then (if h.count = 0 then (0, 5) else ((addP b h x).1, 0)) else (0, 2)) else (0, 1)

/-- holdings with their additions; what is left over -/
def Holding.plus (h : Holding) (q : Int) : Holding := { h with sum := h.sum + q }
def addH (b : Bas) (xs : List Holding) (ys : List Int) : List Holding := List.zipWith (fun h y => h.plus (addP b h y).1) xs ys
def addLeft (b : Bas) (xs : List Holding) (ys : List Int) : Int := (List.zipWith (fun h y => y - h.count * (addP b h y).2) xs ys).sum
def addB (b : Bas) (xs : List Holding) (ys : List Int) : Bool := (addH b xs ys).all fun h => decide (h.sum ≤ 100000000)
def addsP (b : Bas) (xs : List Holding) (ys : List Int) : List Holding × Int × Int :=
  if portB b xs = true then (if ys.length = xs.length ∧ ys.all (fun y => inR y 0 1000000000) = true then (if addB b xs ys = true then (addH b xs ys, addLeft b xs ys, 0) else ([], 0, 3)) else ([], 0, 2)) else ([], 0, 1)
theorem zip_get {α β γ : Type} {f : α → β → γ} {xs : List α} {ys : List β} {k : Nat} {x : α} {y : β} (h1 : xs[k]? = some x) (h2 : ys[k]? = some y) : (List.zipWith f xs ys)[k]? = some (f x y) := by
  rw [List.getElem?_zipWith, h1, h2]
theorem addH_get {b : Bas} {xs : List Holding} {ys : List Int} {k : Nat} {x : Holding} {y : Int} (h1 : xs[k]? = some x) (h2 : ys[k]? = some y) : (addH b xs ys)[k]? = some (x.plus (addP b x y).1) := zip_get h1 h2
theorem addB_no {b : Bas} {xs : List Holding} {ys : List Int} {k : Nat} {x : Holding} {y : Int} (h1 : xs[k]? = some x) (h2 : ys[k]? = some y) (h : 100000000 < x.sum + (addP b x y).1) : addB b xs ys = false := by
  unfold addB
  rw [List.all_eq_false]
  exact ⟨_, List.mem_of_getElem? (addH_get h1 h2), by
    have h3 : ¬ (x.plus (addP b x y).1).sum ≤ 100000000 := by show ¬ x.sum + (addP b x y).1 ≤ 100000000; omega
    simpa using h3⟩
def leftAt (b : Bas) (xs : List Holding) (ys : List Int) (k : Nat) : Int := ((List.zipWith (fun h y => y - h.count * (addP b h y).2) xs ys).take k).sum
theorem leftAt_succ {b : Bas} {xs : List Holding} {ys : List Int} {k : Nat} {x : Holding} {y : Int} (h1 : xs[k]? = some x) (h2 : ys[k]? = some y) : leftAt b xs ys (k + 1) = leftAt b xs ys k + (y - x.count * (addP b x y).2) :=
  sum_snoc (zip_get h1 h2)
theorem leftAt_bound {b : Bas} {xs : List Holding} {ys : List Int} (hl : xs.length ≤ 30) (hh : ∀ x ∈ xs, holdB b x = true) (hy : ∀ y ∈ ys, 0 ≤ y ∧ y ≤ 1000000000) (k : Nat) : -4000000000000000000 ≤ leftAt b xs ys k ∧ leftAt b xs ys k ≤ 4000000000000000000 :=
  (sums_of (n := 30) (hi := 1000000000) (by omega) (by simp; omega) (fun v hv => by
    obtain ⟨i, hi⟩ := List.mem_iff_getElem?.1 hv
    rw [List.getElem?_zipWith] at hi
    cases hx : xs[i]? with
    | none => simp [hx] at hi
    | some x =>
      cases hy' : ys[i]? with
      | none => simp [hx, hy'] at hi
      | some y =>
        simp only [hx, hy', Option.some.injEq] at hi
        subst hi
        have hb := hy y (List.mem_of_getElem? hy')
        have := addP_bound (hh x (List.mem_of_getElem? hx)) hb
        omega) (by omega)).1 k
end Go.Proofs.Ytbjdbpdgacfcpaa
end

/- What a bonus adds to a policy: the program's and the reference's contracts. -/
section
namespace Go.Proofs.Ytbjdbpdgacfcpaa
open Go.RowKit Go.BigFrame

theorem addP_pos {b : Bas} {h : Holding} {x : Int} (hc : 1 ≤ h.count) : addP b h x = addQ (x / h.count) (partT b h.pol h.year) (partD b h.pol h.year) := by unfold addP; rw [if_neg (by omega)]
theorem addQ_zero {a t d : Int} (h : t = 0) : addQ a t d = (0, 0) := by unfold addQ; rw [if_pos h]
theorem addQ_pos {a t d : Int} (h : 1 ≤ t) : addQ a t d = (min (a * d / t) 100000000, upP (min (a * d / t) 100000000) t d) := by unfold addQ; rw [if_neg (by omega)]
/-- what is left to be known of the parts -/
theorem add_facts {a t d : Int} (K : AddOk a t d) : ∃ q : Int, a * d / t = q ∧ 0 ≤ q ∧ (mdP a d t = if q ≤ 1000000000000000000 then (q, a * d % t, true) else (0, 0, false)) ∧ (ldP a d t = if q ≤ 1000000000000000000 then (q, a * d % t) else (2000000000000000000, 0)) ∧
    (min q 100000000 * t / d ≤ 100000000) := by
  refine ⟨a * d / t, rfl, add_quo K, rfl, rfl, ?_⟩
  have h1 := add_quo K
  have h2 := add_up (q := min (a * d / t) 100000000) (t := t) (d := d) (by omega) (by have := K.t0; omega) (by have := K.t0; have := K.t1; omega) K.t1
  omega

set_option maxHeartbeats 4000000 in
theorem impl_Holding_addition_any (b : Bas) (A : Option Addr) (n cap : Nat) (h : Holding) (x : Int) (w : World) (hB : BasT w A n cap b) (H : holdB b h = true) (hc : 1 ≤ h.count) (hx : 0 ≤ x ∧ x ≤ 1000000000) :
    Calls Try.prog 61 #[.agg h.row.toArray, .agg #[.int .i64 b.first, .slice A n cap, .int .i64 b.rate], .int .i64 x] w fun e w' => e = .returned (.tuple #[.int .i64 (addP b h x).1, .int .i64 (addP b h x).2]) ∧ Below w.heap.size w w' := by
  have hbw : Below w.heap.size w ((w.alloc (.cells #[.int .i64 h.kind, .int .i64 h.age, .int .i64 h.years, .int .i64 h.sum, .int .i64 h.load, .int .i64 h.year, .int .i64 h.count] 37)).alloc (.cells #[.int .i64 b.first, .slice A n cap, .int .i64 b.rate] 28)) := ((Below.refl _ w).alloc (Nat.le_refl _) _).alloc (by simp) _
  have HH := Lib.hid ((Blk.new w 37 #[.int .i64 h.kind, .int .i64 h.age, .int .i64 h.years, .int .i64 h.sum, .int .i64 h.load, .int .i64 h.year, .int .i64 h.count]).alloc (.cells #[.int .i64 b.first, .slice A n cap, .int .i64 b.rate] 28))
  have HB := Lib.hid (Blk.new (w.alloc (.cells #[.int .i64 h.kind, .int .i64 h.age, .int .i64 h.years, .int .i64 h.sum, .int .i64 h.load, .int .i64 h.year, .int .i64 h.count] 37)) 28 #[.int .i64 b.first, .slice A n cap, .int .i64 b.rate])
  simp only [World.size_alloc] at HB
  have HBT := Lib.hid (hB.past hbw); clear hB
  obtain ⟨⟨q0, q1⟩, Y⟩ := hold_ok H
  have HY := Lib.hid Y
  obtain ⟨x0, x1⟩ := hx
  have K := add_ok Y ⟨x0, x1⟩ hc
  rw [addP_pos hc]
  clear H Y
  unfold Holding.row at *
  have hcH := Lib.hid (Blk.agg (cs := [.int .i64 h.kind, .int .i64 h.age, .int .i64 h.years, .int .i64 h.sum, .int .i64 h.load, .int .i64 h.year, .int .i64 h.count]) HH.out 0 [.int .i64 h.kind, .int .i64 h.age, .int .i64 h.years, .int .i64 h.sum, .int .i64 h.load, .int .i64 h.year, .int .i64 h.count] rfl)
  have hcB := Lib.hid (Blk.agg (cs := [.int .i64 b.first, .slice A n cap, .int .i64 b.rate]) HB.out 0 [.int .i64 b.first, .slice A n cap, .int .i64 b.rate] rfl)
  by_cases ht : (partT b h.pol h.year) = 0
  · have Q := Lib.hid (addQ_zero (a := x / h.count) (d := (partD b h.pol h.year)) ht)
    have hz : ((partT b h.pol h.year) == 0) = true := by simp [ht]
    have HT := Lib.hid ht; clear ht K
    go_enter Try.func61, Try.ntmps61
    go_wp2_with (first | (refine wpList_load_agg rfl 37 _ rfl ⟨w.heap.size, 0, none⟩ rfl [.int .i64 h.kind, .int .i64 h.age, .int .i64 h.years, .int .i64 h.sum, .int .i64 h.load, .int .i64 h.year, .int .i64 h.count] hcH.out _ Try.underlying37 rfl Holding.size ?_) | (refine wpList_load_agg rfl 28 _ rfl ⟨w.heap.size + 1, 0, none⟩ rfl [.int .i64 b.first, .slice A n cap, .int .i64 b.rate] hcB.out _ Try.underlying28 rfl Bas.size ?_))
    refine (impl_Holding_parts_any b A n cap h _ HBT.out HY.out).mono ?_
    rintro e w1 ⟨rfl, hb1⟩
    have HR := Lib.hid (Blk.new w1 90 #[.int .i64 (partT b h.pol h.year), .int .i64 (partB b h.pol h.year), .int .i64 (partD b h.pol h.year)])
    have hbr := (hbw.trans (hb1.mono hbw.size)).alloc (hbw.trans (hb1.mono hbw.size)).size (.cells #[.int .i64 (partT b h.pol h.year), .int .i64 (partB b h.pol h.year), .int .i64 (partD b h.pol h.year)] 90)
    have c0 : (w1.alloc (.cells #[.int .i64 (partT b h.pol h.year), .int .i64 (partB b h.pol h.year), .int .i64 (partD b h.pol h.year)] 90)).cell? ⟨w1.heap.size, 0, none⟩ = some (.int .i64 (partT b h.pol h.year)) := HR.out.cell 0
    go_wp2
    go_ret2
    exact ⟨by rw [Q.out]; rfl, hbr⟩
  · rcases K with K | K
    · exact absurd K ht
    have Q := Lib.hid (addQ_pos (a := x / h.count) (d := (partD b h.pol h.year)) K.t0)
    have hz : ((partT b h.pol h.year) == 0) = false := by simp [ht]
    have k1 := K.a0; have k2 := K.a1; have k3 := K.t0; have k4 := K.t1; have k5 := K.d1
    obtain ⟨q, hq, hq0, hmd, _, hpr⟩ := add_facts K
    rw [hq] at Q
    clear ht K
    have HQ := Lib.hid hq; clear hq
    obtain ⟨m, hm⟩ : ∃ m, min q 100000000 = m := ⟨_, rfl⟩
    rw [hm] at Q hpr
    have hm0 : 0 ≤ m := by omega
    have hm1 : m ≤ 100000000 := by omega
    have HM := Lib.hid hm; clear hm
    have HRW := Lib.hid (fun w1 : World => Blk.new w1 90 #[.int .i64 (partT b h.pol h.year), .int .i64 (partB b h.pol h.year), .int .i64 (partD b h.pol h.year)])
    by_cases hlq : q ≤ 1000000000000000000
    · rw [if_pos hlq] at hmd
      have HMD := Lib.hid hmd; clear hmd
      go_enter Try.func61, Try.ntmps61
      go_wp2_with (first | (refine wpList_load_agg rfl 37 _ rfl ⟨w.heap.size, 0, none⟩ rfl [.int .i64 h.kind, .int .i64 h.age, .int .i64 h.years, .int .i64 h.sum, .int .i64 h.load, .int .i64 h.year, .int .i64 h.count] hcH.out _ Try.underlying37 rfl Holding.size ?_) | (refine wpList_load_agg rfl 28 _ rfl ⟨w.heap.size + 1, 0, none⟩ rfl [.int .i64 b.first, .slice A n cap, .int .i64 b.rate] hcB.out _ Try.underlying28 rfl Bas.size ?_))
      refine (impl_Holding_parts_any b A n cap h _ HBT.out HY.out).mono ?_
      rintro e w1 ⟨rfl, hb1⟩
      have HR := Lib.hid (HRW.out w1)
      have HH1 := Lib.hid ((HH.out.below' hb1).alloc (.cells #[.int .i64 (partT b h.pol h.year), .int .i64 (partB b h.pol h.year), .int .i64 (partD b h.pol h.year)] 90))
      have hbr := (hbw.trans (hb1.mono hbw.size)).alloc (hbw.trans (hb1.mono hbw.size)).size (.cells #[.int .i64 (partT b h.pol h.year), .int .i64 (partB b h.pol h.year), .int .i64 (partD b h.pol h.year)] 90)
      have c0 : (w1.alloc (.cells #[.int .i64 (partT b h.pol h.year), .int .i64 (partB b h.pol h.year), .int .i64 (partD b h.pol h.year)] 90)).cell? ⟨w1.heap.size, 0, none⟩ = some (.int .i64 (partT b h.pol h.year)) := HR.out.cell 0
      have d0 := fun y : Past (w1.alloc (.cells #[.int .i64 (partT b h.pol h.year), .int .i64 (partB b h.pol h.year), .int .i64 (partD b h.pol h.year)] 90)) => Past.cell (p := ⟨w1.heap.size, 0, none⟩) (v := .int .i64 (partT b h.pol h.year)) (HR.out.cell 0) y
      have d2 := fun y : Past (w1.alloc (.cells #[.int .i64 (partT b h.pol h.year), .int .i64 (partB b h.pol h.year), .int .i64 (partD b h.pol h.year)] 90)) => Past.cell (p := ⟨w1.heap.size, 2, none⟩) (v := .int .i64 (partD b h.pol h.year)) (HR.out.cell 2) y
      have d6 := fun y : Past (w1.alloc (.cells #[.int .i64 (partT b h.pol h.year), .int .i64 (partB b h.pol h.year), .int .i64 (partD b h.pol h.year)] 90)) => Past.cell (p := ⟨w.heap.size, 6, none⟩) (v := .int .i64 h.count) (HH1.out.cell 6) y
      go_wp2
      clear c0
      refine wp_region_past (by kernel_rfl) (by kernel_rfl) ?_
      repeat (go_big_quiet_step ((go_at_call 88; exact past_call ((impl_multiplyDivide_any _ _ _ _ ⟨by omega, by omega⟩ ⟨by omega, by omega⟩ ⟨by omega, by omega⟩).mono (by rw [HMD.out]; exact fun _ _ h => h)))))
      refine wpQuiet_nil ?_
      rintro _ ⟨y, rfl⟩
      go_wp2_with fail
      rw [HM.out]
      refine (impl_priced_any m (partT b h.pol h.year) (partD b h.pol h.year) _ ⟨by omega, by omega⟩ ⟨by omega, by omega⟩ ⟨by omega, by omega⟩ (by omega)).mono ?_
      rintro e w2 ⟨rfl, hb2⟩
      have hb02 := hbr.trans ((y.2.trans (hb2.mono y.2.size)).mono hbr.size)
      go_wp2
      go_ret2
      exact ⟨by rw [Q.out]; rfl, hb02⟩
    · rw [if_neg hlq] at hmd
      have HMD := Lib.hid hmd; clear hmd
      have HM2 := Lib.hid (show m = 100000000 by have := HM.out; omega)
      go_enter Try.func61, Try.ntmps61
      go_wp2_with (first | (refine wpList_load_agg rfl 37 _ rfl ⟨w.heap.size, 0, none⟩ rfl [.int .i64 h.kind, .int .i64 h.age, .int .i64 h.years, .int .i64 h.sum, .int .i64 h.load, .int .i64 h.year, .int .i64 h.count] hcH.out _ Try.underlying37 rfl Holding.size ?_) | (refine wpList_load_agg rfl 28 _ rfl ⟨w.heap.size + 1, 0, none⟩ rfl [.int .i64 b.first, .slice A n cap, .int .i64 b.rate] hcB.out _ Try.underlying28 rfl Bas.size ?_))
      refine (impl_Holding_parts_any b A n cap h _ HBT.out HY.out).mono ?_
      rintro e w1 ⟨rfl, hb1⟩
      have HR := Lib.hid (HRW.out w1)
      have HH1 := Lib.hid ((HH.out.below' hb1).alloc (.cells #[.int .i64 (partT b h.pol h.year), .int .i64 (partB b h.pol h.year), .int .i64 (partD b h.pol h.year)] 90))
      have hbr := (hbw.trans (hb1.mono hbw.size)).alloc (hbw.trans (hb1.mono hbw.size)).size (.cells #[.int .i64 (partT b h.pol h.year), .int .i64 (partB b h.pol h.year), .int .i64 (partD b h.pol h.year)] 90)
      have c0 : (w1.alloc (.cells #[.int .i64 (partT b h.pol h.year), .int .i64 (partB b h.pol h.year), .int .i64 (partD b h.pol h.year)] 90)).cell? ⟨w1.heap.size, 0, none⟩ = some (.int .i64 (partT b h.pol h.year)) := HR.out.cell 0
      have d0 := fun y : Past (w1.alloc (.cells #[.int .i64 (partT b h.pol h.year), .int .i64 (partB b h.pol h.year), .int .i64 (partD b h.pol h.year)] 90)) => Past.cell (p := ⟨w1.heap.size, 0, none⟩) (v := .int .i64 (partT b h.pol h.year)) (HR.out.cell 0) y
      have d2 := fun y : Past (w1.alloc (.cells #[.int .i64 (partT b h.pol h.year), .int .i64 (partB b h.pol h.year), .int .i64 (partD b h.pol h.year)] 90)) => Past.cell (p := ⟨w1.heap.size, 2, none⟩) (v := .int .i64 (partD b h.pol h.year)) (HR.out.cell 2) y
      have d6 := fun y : Past (w1.alloc (.cells #[.int .i64 (partT b h.pol h.year), .int .i64 (partB b h.pol h.year), .int .i64 (partD b h.pol h.year)] 90)) => Past.cell (p := ⟨w.heap.size, 6, none⟩) (v := .int .i64 h.count) (HH1.out.cell 6) y
      go_wp2
      clear c0
      refine wp_region_past (by kernel_rfl) (by kernel_rfl) ?_
      repeat (go_big_quiet_step ((go_at_call 88; exact past_call ((impl_multiplyDivide_any _ _ _ _ ⟨by omega, by omega⟩ ⟨by omega, by omega⟩ ⟨by omega, by omega⟩).mono (by rw [HMD.out]; exact fun _ _ h => h)))))
      refine wpQuiet_nil ?_
      rintro _ ⟨y, rfl⟩
      go_wp2_with fail
      rw [← HM2.out]
      refine (impl_priced_any m (partT b h.pol h.year) (partD b h.pol h.year) _ ⟨by omega, by omega⟩ ⟨by omega, by omega⟩ ⟨by omega, by omega⟩ (by omega)).mono ?_
      rintro e w2 ⟨rfl, hb2⟩
      have hb02 := hbr.trans ((y.2.trans (hb2.mono y.2.size)).mono hbr.size)
      go_wp2
      go_ret2
      exact ⟨by rw [Q.out]; rfl, hb02⟩


set_option maxHeartbeats 4000000 in
theorem spec_l19Addition_any (b : Bas) (A : Option Addr) (n cap : Nat) (h : Holding) (x : Int) (w : World) (hB : BasT w A n cap b) (H : holdB b h = true) (hx : 0 ≤ x ∧ x ≤ 1000000000) :
    Calls Try.prog 64 #[.agg #[.int .i64 b.first, .slice A n cap, .int .i64 b.rate], .agg h.row.toArray, .int .i64 x] w fun e w' => e = .returned (.tuple #[.int .i64 (addP b h x).1, .int .i64 (addP b h x).2]) ∧ Below w.heap.size w w' := by
  have hbw : Below w.heap.size w ((w.alloc (.cells #[.int .i64 b.first, .slice A n cap, .int .i64 b.rate] 28)).alloc (.cells #[.int .i64 h.kind, .int .i64 h.age, .int .i64 h.years, .int .i64 h.sum, .int .i64 h.load, .int .i64 h.year, .int .i64 h.count] 37)) := ((Below.refl _ w).alloc (Nat.le_refl _) _).alloc (by simp) _
  have HB := Lib.hid ((Blk.new w 28 #[.int .i64 b.first, .slice A n cap, .int .i64 b.rate]).alloc (.cells #[.int .i64 h.kind, .int .i64 h.age, .int .i64 h.years, .int .i64 h.sum, .int .i64 h.load, .int .i64 h.year, .int .i64 h.count] 37))
  have HH := Lib.hid (Blk.new (w.alloc (.cells #[.int .i64 b.first, .slice A n cap, .int .i64 b.rate] 28)) 37 #[.int .i64 h.kind, .int .i64 h.age, .int .i64 h.years, .int .i64 h.sum, .int .i64 h.load, .int .i64 h.year, .int .i64 h.count])
  simp only [World.size_alloc] at HH
  have HBT := Lib.hid (hB.past hbw); clear hB
  obtain ⟨⟨q0, q1⟩, Y⟩ := hold_ok H
  have HY := Lib.hid Y
  obtain ⟨x0, x1⟩ := hx
  have HK := Lib.hid (fun hc : 1 ≤ h.count => add_ok Y ⟨x0, x1⟩ hc)
  clear H Y
  unfold Holding.row at *
  have hcP := Lib.hid (Blk.agg (cs := [.int .i64 h.kind, .int .i64 h.age, .int .i64 h.years, .int .i64 h.sum, .int .i64 h.load, .int .i64 h.year, .int .i64 h.count]) HH.out 0 [.int .i64 h.kind, .int .i64 h.age, .int .i64 h.years, .int .i64 h.sum, .int .i64 h.load] rfl)
  have hcB := Lib.hid (Blk.agg (cs := [.int .i64 b.first, .slice A n cap, .int .i64 b.rate]) HB.out 0 [.int .i64 b.first, .slice A n cap, .int .i64 b.rate] rfl)
  by_cases hc0 : h.count = 0
  · have Q := Lib.hid (show addP b h x = (0, 0) by unfold addP; rw [if_pos hc0])
    have hz : (h.count == 0) = true := by simp [hc0]
    clear hc0
    go_enter Try.func64, Try.ntmps64
    go_wp2_with (first | (refine wpList_load_agg rfl 28 _ rfl ⟨w.heap.size, 0, none⟩ rfl [.int .i64 b.first, .slice A n cap, .int .i64 b.rate] hcB.out _ Try.underlying28 rfl Bas.size ?_) | (refine wpList_load_agg rfl 35 _ rfl ⟨w.heap.size + 1, 0, none⟩ rfl [.int .i64 h.kind, .int .i64 h.age, .int .i64 h.years, .int .i64 h.sum, .int .i64 h.load] hcP.out _ Try.underlying35 rfl Policy.size ?_))
    refine (spec_l11Parts_any b A n cap h.pol h.year _ HBT.out HY.out).mono ?_
    rintro e w1 ⟨rfl, hb1⟩
    have HH1 := Lib.hid (HH.out.below' hb1)
    have c6 : w1.cell? ⟨w.heap.size + 1, 6, none⟩ = some (.int .i64 h.count) := HH1.out.cell 6
    go_wp2
    go_ret2
    exact ⟨by rw [Q.out]; rfl, hbw.trans (hb1.mono hbw.size)⟩
  have hc : 1 ≤ h.count := by omega
  have K := HK.out hc
  rw [addP_pos hc]
  have hzc : (h.count == 0) = false := by simp [hc0]
  clear hc0
  by_cases ht : (partT b h.pol h.year) = 0
  · have Q := Lib.hid (addQ_zero (a := x / h.count) (d := (partD b h.pol h.year)) ht)
    have hz : ((partT b h.pol h.year) == 0) = true := by simp [ht]
    have HT := Lib.hid ht; clear ht K
    go_enter Try.func64, Try.ntmps64
    go_wp2_with (first | (refine wpList_load_agg rfl 28 _ rfl ⟨w.heap.size, 0, none⟩ rfl [.int .i64 b.first, .slice A n cap, .int .i64 b.rate] hcB.out _ Try.underlying28 rfl Bas.size ?_) | (refine wpList_load_agg rfl 35 _ rfl ⟨w.heap.size + 1, 0, none⟩ rfl [.int .i64 h.kind, .int .i64 h.age, .int .i64 h.years, .int .i64 h.sum, .int .i64 h.load] hcP.out _ Try.underlying35 rfl Policy.size ?_))
    refine (spec_l11Parts_any b A n cap h.pol h.year _ HBT.out HY.out).mono ?_
    rintro e w1 ⟨rfl, hb1⟩
    have HH1 := Lib.hid (HH.out.below' hb1)
    have c6 : w1.cell? ⟨w.heap.size + 1, 6, none⟩ = some (.int .i64 h.count) := HH1.out.cell 6
    go_wp2
    go_ret2
    exact ⟨by rw [Q.out]; rfl, hbw.trans (hb1.mono hbw.size)⟩
  · rcases K with K | K
    · exact absurd K ht
    have Q := Lib.hid (addQ_pos (a := x / h.count) (d := (partD b h.pol h.year)) K.t0)
    have hz : ((partT b h.pol h.year) == 0) = false := by simp [ht]
    have k1 := K.a0; have k2 := K.a1; have k3 := K.t0; have k4 := K.t1; have k5 := K.d1
    obtain ⟨q, hq, hq0, _, hld, hpr⟩ := add_facts K
    rw [hq] at Q
    clear ht K
    have HQ := Lib.hid hq; clear hq
    obtain ⟨m, hm⟩ : ∃ m, min q 100000000 = m := ⟨_, rfl⟩
    rw [hm] at Q hpr
    have hm0 : 0 ≤ m := by omega
    have hm1 : m ≤ 100000000 := by omega
    have HM := Lib.hid hm; clear hm
    by_cases hlq : q ≤ 1000000000000000000
    · rw [if_pos hlq] at hld
      have HLD := Lib.hid hld; clear hld
      go_enter Try.func64, Try.ntmps64
      go_wp2_with (first | (refine wpList_load_agg rfl 28 _ rfl ⟨w.heap.size, 0, none⟩ rfl [.int .i64 b.first, .slice A n cap, .int .i64 b.rate] hcB.out _ Try.underlying28 rfl Bas.size ?_) | (refine wpList_load_agg rfl 35 _ rfl ⟨w.heap.size + 1, 0, none⟩ rfl [.int .i64 h.kind, .int .i64 h.age, .int .i64 h.years, .int .i64 h.sum, .int .i64 h.load] hcP.out _ Try.underlying35 rfl Policy.size ?_))
      refine (spec_l11Parts_any b A n cap h.pol h.year _ HBT.out HY.out).mono ?_
      rintro e w1 ⟨rfl, hb1⟩
      have HH1 := Lib.hid (HH.out.below' hb1)
      have c6 : w1.cell? ⟨w.heap.size + 1, 6, none⟩ = some (.int .i64 h.count) := HH1.out.cell 6
      go_wp2_with fail
      refine (spec_l05Divide_any _ _ _ _ ⟨by omega, by omega⟩ ⟨by omega, by omega⟩ ⟨by omega, by omega⟩).mono ?_
      rw [HLD.out]
      rintro e w2 ⟨rfl, rfl⟩
      go_wp2_with fail
      rw [HM.out]
      refine (spec_l05Up_any m (partT b h.pol h.year) (partD b h.pol h.year) _ ⟨by omega, by omega⟩ ⟨by omega, by omega⟩ ⟨by omega, by omega⟩ (by omega)).mono ?_
      rintro e w3 ⟨rfl, rfl⟩
      go_wp2
      go_ret2
      exact ⟨by rw [Q.out]; rfl, hbw.trans (hb1.mono hbw.size)⟩
    · rw [if_neg hlq] at hld
      have HLD := Lib.hid hld; clear hld
      have HM2 := Lib.hid (show min 2000000000000000000 100000000 = m by have := HM.out; omega)
      go_enter Try.func64, Try.ntmps64
      go_wp2_with (first | (refine wpList_load_agg rfl 28 _ rfl ⟨w.heap.size, 0, none⟩ rfl [.int .i64 b.first, .slice A n cap, .int .i64 b.rate] hcB.out _ Try.underlying28 rfl Bas.size ?_) | (refine wpList_load_agg rfl 35 _ rfl ⟨w.heap.size + 1, 0, none⟩ rfl [.int .i64 h.kind, .int .i64 h.age, .int .i64 h.years, .int .i64 h.sum, .int .i64 h.load] hcP.out _ Try.underlying35 rfl Policy.size ?_))
      refine (spec_l11Parts_any b A n cap h.pol h.year _ HBT.out HY.out).mono ?_
      rintro e w1 ⟨rfl, hb1⟩
      have HH1 := Lib.hid (HH.out.below' hb1)
      have c6 : w1.cell? ⟨w.heap.size + 1, 6, none⟩ = some (.int .i64 h.count) := HH1.out.cell 6
      go_wp2_with fail
      refine (spec_l05Divide_any _ _ _ _ ⟨by omega, by omega⟩ ⟨by omega, by omega⟩ ⟨by omega, by omega⟩).mono ?_
      rw [HLD.out]
      rintro e w2 ⟨rfl, rfl⟩
      go_wp2_with fail
      first | rw [HM2.out] | (rw [show (100000000 : Int) = m by have := HM2.out; omega])
      refine (spec_l05Up_any m (partT b h.pol h.year) (partD b h.pol h.year) _ ⟨by omega, by omega⟩ ⟨by omega, by omega⟩ ⟨by omega, by omega⟩ (by omega)).mono ?_
      rintro e w3 ⟨rfl, rfl⟩
      go_wp2
      go_ret2
      exact ⟨by rw [Q.out]; rfl, hbw.trans (hb1.mono hbw.size)⟩


set_option maxHeartbeats 4000000 in
theorem impl_AdditionFor_any (b : Bas) (A : Option Addr) (n cap : Nat) (h : Holding) (x : Int) (w : World) (hB : BasT w A n cap b) (hf : h.fits) (_hx : In64 x) :
    Calls Try.prog 13 #[.agg #[.int .i64 b.first, .slice A n cap, .int .i64 b.rate], .agg h.row.toArray, .int .i64 x] w fun e w' => e = .returned (.tuple #[.int .i64 (addForP b h x).1, .int .i64 (addForP b h x).2]) ∧ Below w.heap.size w w' := by
  have hbw : Below w.heap.size w ((w.alloc (.cells #[.int .i64 b.first, .slice A n cap, .int .i64 b.rate] 28)).alloc (.cells #[.int .i64 h.kind, .int .i64 h.age, .int .i64 h.years, .int .i64 h.sum, .int .i64 h.load, .int .i64 h.year, .int .i64 h.count] 37)) := ((Below.refl _ w).alloc (Nat.le_refl _) _).alloc (by simp) _
  have HB := Lib.hid ((Blk.new w 28 #[.int .i64 b.first, .slice A n cap, .int .i64 b.rate]).alloc (.cells #[.int .i64 h.kind, .int .i64 h.age, .int .i64 h.years, .int .i64 h.sum, .int .i64 h.load, .int .i64 h.year, .int .i64 h.count] 37))
  have HH := Lib.hid (Blk.new (w.alloc (.cells #[.int .i64 b.first, .slice A n cap, .int .i64 b.rate] 28)) 37 #[.int .i64 h.kind, .int .i64 h.age, .int .i64 h.years, .int .i64 h.sum, .int .i64 h.load, .int .i64 h.year, .int .i64 h.count])
  simp only [World.size_alloc] at HH
  have HBT := Lib.hid (hB.past hbw); clear hB
  have hb3 : Below ((w.alloc (.cells #[.int .i64 b.first, .slice A n cap, .int .i64 b.rate] 28)).alloc (.cells #[.int .i64 h.kind, .int .i64 h.age, .int .i64 h.years, .int .i64 h.sum, .int .i64 h.load, .int .i64 h.year, .int .i64 h.count] 37)).heap.size ((w.alloc (.cells #[.int .i64 b.first, .slice A n cap, .int .i64 b.rate] 28)).alloc (.cells #[.int .i64 h.kind, .int .i64 h.age, .int .i64 h.years, .int .i64 h.sum, .int .i64 h.load, .int .i64 h.year, .int .i64 h.count] 37)) (((w.alloc (.cells #[.int .i64 b.first, .slice A n cap, .int .i64 b.rate] 28)).alloc (.cells #[.int .i64 h.kind, .int .i64 h.age, .int .i64 h.years, .int .i64 h.sum, .int .i64 h.load, .int .i64 h.year, .int .i64 h.count] 37)).alloc (.cells #[.int .i64 h.kind, .int .i64 h.age, .int .i64 h.years, .int .i64 h.sum, .int .i64 h.load, .int .i64 h.year, .int .i64 h.count] 37)) := (Below.refl _ _).alloc (Nat.le_refl _) _
  have HX := Lib.hid (show Rd (((w.alloc (.cells #[.int .i64 b.first, .slice A n cap, .int .i64 b.rate] 28)).alloc (.cells #[.int .i64 h.kind, .int .i64 h.age, .int .i64 h.years, .int .i64 h.sum, .int .i64 h.load, .int .i64 h.year, .int .i64 h.count] 37)).alloc (.cells #[.int .i64 h.kind, .int .i64 h.age, .int .i64 h.years, .int .i64 h.sum, .int .i64 h.load, .int .i64 h.year, .int .i64 h.count] 37)) (((w.alloc (.cells #[.int .i64 b.first, .slice A n cap, .int .i64 b.rate] 28)).alloc (.cells #[.int .i64 h.kind, .int .i64 h.age, .int .i64 h.years, .int .i64 h.sum, .int .i64 h.load, .int .i64 h.year, .int .i64 h.count] 37)).alloc (.cells #[.int .i64 h.kind, .int .i64 h.age, .int .i64 h.years, .int .i64 h.sum, .int .i64 h.load, .int .i64 h.year, .int .i64 h.count] 37)).heap.size (some ⟨w.heap.size + 1 + 1, 0, none⟩) 7 (holdingRows [h]) by
    have h9 := Rd.new1 (w := ((w.alloc (.cells #[.int .i64 b.first, .slice A n cap, .int .i64 b.rate] 28)).alloc (.cells #[.int .i64 h.kind, .int .i64 h.age, .int .i64 h.years, .int .i64 h.sum, .int .i64 h.load, .int .i64 h.year, .int .i64 h.count] 37))) 37 h.row
    simp only [World.size_alloc] at h9 ⊢
    exact h9)
  have HF := Lib.hid (show ∀ x ∈ [h], x.fits by simpa using hf); clear hf
  unfold Holding.row at *
  have hcB := Lib.hid (Blk.agg (cs := [.int .i64 b.first, .slice A n cap, .int .i64 b.rate]) HB.out 0 [.int .i64 b.first, .slice A n cap, .int .i64 b.rate] rfl)
  have hcH := Lib.hid (Blk.agg (cs := [.int .i64 h.kind, .int .i64 h.age, .int .i64 h.years, .int .i64 h.sum, .int .i64 h.load, .int .i64 h.year, .int .i64 h.count]) HH.out 0 [.int .i64 h.kind, .int .i64 h.age, .int .i64 h.years, .int .i64 h.sum, .int .i64 h.load, .int .i64 h.year, .int .i64 h.count] rfl)
  cases hp : portB b [h]
  · have Q := Lib.hid (show addForP b h x = (0, 1) by simp [addForP, hp])
    go_enter Try.func13, Try.ntmps13
    go_wp2_with (first | (refine wpList_load_agg rfl 28 _ rfl ⟨w.heap.size, 0, none⟩ rfl [.int .i64 b.first, .slice A n cap, .int .i64 b.rate] hcB.out _ Try.underlying28 rfl Bas.size ?_) | (refine wpList_load_agg rfl 37 _ rfl ⟨w.heap.size + 1, 0, none⟩ rfl [.int .i64 h.kind, .int .i64 h.age, .int .i64 h.years, .int .i64 h.sum, .int .i64 h.load, .int .i64 h.year, .int .i64 h.count] hcH.out _ Try.underlying37 rfl Holding.size ?_))
    refine (impl_IsPortfolio_any b A n cap _ 1 1 [h] _ (HBT.out.past hb3) rfl (by omega) HX.out HF.out).mono ?_
    rw [hp]
    rintro e w1 ⟨rfl, hb1⟩
    have hb01 := (hbw.trans (hb3.mono hbw.size)).trans (hb1.mono (hbw.trans (hb3.mono hbw.size)).size)
    have HB2 := Lib.hid ((HB.out.below' hb3).below' hb1)
    have HH2 := Lib.hid ((HH.out.below' hb3).below' hb1)
    have HBT2 := Lib.hid ((HBT.out.past hb3).past hb1)
    have c6 : w1.cell? ⟨w.heap.size + 1, 6, none⟩ = some (.int .i64 h.count) := HH2.out.cell 6
    go_wp2
    go_ret2
    exact ⟨by rw [Q.out]; rfl, hb01⟩
  have HHO := Lib.hid ((port_hold hp).2 h (by simp))
  cases hi : inR x 0 1000000000
  · have Q := Lib.hid (show addForP b h x = (0, 2) by simp [addForP, hp, hi])
    go_enter Try.func13, Try.ntmps13
    go_wp2_with (first | (refine wpList_load_agg rfl 28 _ rfl ⟨w.heap.size, 0, none⟩ rfl [.int .i64 b.first, .slice A n cap, .int .i64 b.rate] hcB.out _ Try.underlying28 rfl Bas.size ?_) | (refine wpList_load_agg rfl 37 _ rfl ⟨w.heap.size + 1, 0, none⟩ rfl [.int .i64 h.kind, .int .i64 h.age, .int .i64 h.years, .int .i64 h.sum, .int .i64 h.load, .int .i64 h.year, .int .i64 h.count] hcH.out _ Try.underlying37 rfl Holding.size ?_))
    refine (impl_IsPortfolio_any b A n cap _ 1 1 [h] _ (HBT.out.past hb3) rfl (by omega) HX.out HF.out).mono ?_
    rw [hp]
    rintro e w1 ⟨rfl, hb1⟩
    have hb01 := (hbw.trans (hb3.mono hbw.size)).trans (hb1.mono (hbw.trans (hb3.mono hbw.size)).size)
    have HB2 := Lib.hid ((HB.out.below' hb3).below' hb1)
    have HH2 := Lib.hid ((HH.out.below' hb3).below' hb1)
    have HBT2 := Lib.hid ((HBT.out.past hb3).past hb1)
    have c6 : w1.cell? ⟨w.heap.size + 1, 6, none⟩ = some (.int .i64 h.count) := HH2.out.cell 6
    go_wp2_with (first | (go_at_call 66; refine (impl_isAmount_any _ _).mono ?_; rintro e w' ⟨rfl, rfl⟩))
    go_ret2
    exact ⟨by rw [Q.out]; rfl, hb01⟩
  obtain ⟨x0, x1⟩ := inR_true.1 hi
  by_cases hc0 : h.count = 0
  · have Q := Lib.hid (show addForP b h x = (0, 5) by simp [addForP, hp, hi, hc0])
    have hz : (h.count == 0) = true := by simp [hc0]
    clear hc0
    go_enter Try.func13, Try.ntmps13
    go_wp2_with (first | (refine wpList_load_agg rfl 28 _ rfl ⟨w.heap.size, 0, none⟩ rfl [.int .i64 b.first, .slice A n cap, .int .i64 b.rate] hcB.out _ Try.underlying28 rfl Bas.size ?_) | (refine wpList_load_agg rfl 37 _ rfl ⟨w.heap.size + 1, 0, none⟩ rfl [.int .i64 h.kind, .int .i64 h.age, .int .i64 h.years, .int .i64 h.sum, .int .i64 h.load, .int .i64 h.year, .int .i64 h.count] hcH.out _ Try.underlying37 rfl Holding.size ?_))
    refine (impl_IsPortfolio_any b A n cap _ 1 1 [h] _ (HBT.out.past hb3) rfl (by omega) HX.out HF.out).mono ?_
    rw [hp]
    rintro e w1 ⟨rfl, hb1⟩
    have hb01 := (hbw.trans (hb3.mono hbw.size)).trans (hb1.mono (hbw.trans (hb3.mono hbw.size)).size)
    have HB2 := Lib.hid ((HB.out.below' hb3).below' hb1)
    have HH2 := Lib.hid ((HH.out.below' hb3).below' hb1)
    have HBT2 := Lib.hid ((HBT.out.past hb3).past hb1)
    have c6 : w1.cell? ⟨w.heap.size + 1, 6, none⟩ = some (.int .i64 h.count) := HH2.out.cell 6
    go_wp2_with (first | (go_at_call 66; refine (impl_isAmount_any _ _).mono ?_; rintro e w' ⟨rfl, rfl⟩))
    go_ret2
    exact ⟨by rw [Q.out]; rfl, hb01⟩
  · have Q := Lib.hid (show addForP b h x = ((addP b h x).1, 0) by simp [addForP, hp, hi, hc0])
    have hz : (h.count == 0) = false := by simp [hc0]
    have hc : 1 ≤ h.count := by obtain ⟨⟨c0, _⟩, _⟩ := hold_ok HHO.out; omega
    clear hc0
    go_enter Try.func13, Try.ntmps13
    go_wp2_with (first | (refine wpList_load_agg rfl 28 _ rfl ⟨w.heap.size, 0, none⟩ rfl [.int .i64 b.first, .slice A n cap, .int .i64 b.rate] hcB.out _ Try.underlying28 rfl Bas.size ?_) | (refine wpList_load_agg rfl 37 _ rfl ⟨w.heap.size + 1, 0, none⟩ rfl [.int .i64 h.kind, .int .i64 h.age, .int .i64 h.years, .int .i64 h.sum, .int .i64 h.load, .int .i64 h.year, .int .i64 h.count] hcH.out _ Try.underlying37 rfl Holding.size ?_))
    refine (impl_IsPortfolio_any b A n cap _ 1 1 [h] _ (HBT.out.past hb3) rfl (by omega) HX.out HF.out).mono ?_
    rw [hp]
    rintro e w1 ⟨rfl, hb1⟩
    have hb01 := (hbw.trans (hb3.mono hbw.size)).trans (hb1.mono (hbw.trans (hb3.mono hbw.size)).size)
    have HB2 := Lib.hid ((HB.out.below' hb3).below' hb1)
    have HH2 := Lib.hid ((HH.out.below' hb3).below' hb1)
    have HBT2 := Lib.hid ((HBT.out.past hb3).past hb1)
    have c6 : w1.cell? ⟨w.heap.size + 1, 6, none⟩ = some (.int .i64 h.count) := HH2.out.cell 6
    have hcB2 := Lib.hid (Blk.agg (cs := [.int .i64 b.first, .slice A n cap, .int .i64 b.rate]) HB2.out 0 [.int .i64 b.first, .slice A n cap, .int .i64 b.rate] rfl)
    have hcH2 := Lib.hid (Blk.agg (cs := [.int .i64 h.kind, .int .i64 h.age, .int .i64 h.years, .int .i64 h.sum, .int .i64 h.load, .int .i64 h.year, .int .i64 h.count]) HH2.out 0 [.int .i64 h.kind, .int .i64 h.age, .int .i64 h.years, .int .i64 h.sum, .int .i64 h.load, .int .i64 h.year, .int .i64 h.count] rfl)
    go_wp2_with (first | (go_at_call 66; refine (impl_isAmount_any _ _).mono ?_; rintro e w' ⟨rfl, rfl⟩) | (go_at_call 61; fail) | (refine wpList_load_agg rfl 28 _ rfl ⟨w.heap.size, 0, none⟩ rfl [.int .i64 b.first, .slice A n cap, .int .i64 b.rate] hcB2.out _ Try.underlying28 rfl Bas.size ?_) | (refine wpList_load_agg rfl 37 _ rfl ⟨w.heap.size + 1, 0, none⟩ rfl [.int .i64 h.kind, .int .i64 h.age, .int .i64 h.years, .int .i64 h.sum, .int .i64 h.load, .int .i64 h.year, .int .i64 h.count] hcH2.out _ Try.underlying37 rfl Holding.size ?_))
    refine (impl_Holding_addition_any b A n cap h x _ HBT2.out HHO.out hc ⟨x0, x1⟩).mono ?_
    rintro e w2 ⟨rfl, hb2⟩
    go_wp2
    go_ret2
    exact ⟨by rw [Q.out]; rfl, hb01.trans (hb2.mono hb01.size)⟩


set_option maxHeartbeats 4000000 in
theorem spec_AdditionFor_any (b : Bas) (A : Option Addr) (n cap : Nat) (h : Holding) (x : Int) (w : World) (hB : BasT w A n cap b) (hf : h.fits) (_hx : In64 x) :
    Calls Try.prog 14 #[.agg #[.int .i64 b.first, .slice A n cap, .int .i64 b.rate], .agg h.row.toArray, .int .i64 x] w fun e w' => e = .returned (.tuple #[.int .i64 (addForP b h x).1, .int .i64 (addForP b h x).2]) ∧ Below w.heap.size w w' := by
  have hbw : Below w.heap.size w ((w.alloc (.cells #[.int .i64 b.first, .slice A n cap, .int .i64 b.rate] 28)).alloc (.cells #[.int .i64 h.kind, .int .i64 h.age, .int .i64 h.years, .int .i64 h.sum, .int .i64 h.load, .int .i64 h.year, .int .i64 h.count] 37)) := ((Below.refl _ w).alloc (Nat.le_refl _) _).alloc (by simp) _
  have HB := Lib.hid ((Blk.new w 28 #[.int .i64 b.first, .slice A n cap, .int .i64 b.rate]).alloc (.cells #[.int .i64 h.kind, .int .i64 h.age, .int .i64 h.years, .int .i64 h.sum, .int .i64 h.load, .int .i64 h.year, .int .i64 h.count] 37))
  have HH := Lib.hid (Blk.new (w.alloc (.cells #[.int .i64 b.first, .slice A n cap, .int .i64 b.rate] 28)) 37 #[.int .i64 h.kind, .int .i64 h.age, .int .i64 h.years, .int .i64 h.sum, .int .i64 h.load, .int .i64 h.year, .int .i64 h.count])
  simp only [World.size_alloc] at HH
  have HBT := Lib.hid (hB.past hbw); clear hB
  have hb3 : Below ((w.alloc (.cells #[.int .i64 b.first, .slice A n cap, .int .i64 b.rate] 28)).alloc (.cells #[.int .i64 h.kind, .int .i64 h.age, .int .i64 h.years, .int .i64 h.sum, .int .i64 h.load, .int .i64 h.year, .int .i64 h.count] 37)).heap.size ((w.alloc (.cells #[.int .i64 b.first, .slice A n cap, .int .i64 b.rate] 28)).alloc (.cells #[.int .i64 h.kind, .int .i64 h.age, .int .i64 h.years, .int .i64 h.sum, .int .i64 h.load, .int .i64 h.year, .int .i64 h.count] 37)) (((w.alloc (.cells #[.int .i64 b.first, .slice A n cap, .int .i64 b.rate] 28)).alloc (.cells #[.int .i64 h.kind, .int .i64 h.age, .int .i64 h.years, .int .i64 h.sum, .int .i64 h.load, .int .i64 h.year, .int .i64 h.count] 37)).alloc (.cells #[.int .i64 h.kind, .int .i64 h.age, .int .i64 h.years, .int .i64 h.sum, .int .i64 h.load, .int .i64 h.year, .int .i64 h.count] 37)) := (Below.refl _ _).alloc (Nat.le_refl _) _
  have HX := Lib.hid (show Rd (((w.alloc (.cells #[.int .i64 b.first, .slice A n cap, .int .i64 b.rate] 28)).alloc (.cells #[.int .i64 h.kind, .int .i64 h.age, .int .i64 h.years, .int .i64 h.sum, .int .i64 h.load, .int .i64 h.year, .int .i64 h.count] 37)).alloc (.cells #[.int .i64 h.kind, .int .i64 h.age, .int .i64 h.years, .int .i64 h.sum, .int .i64 h.load, .int .i64 h.year, .int .i64 h.count] 37)) (((w.alloc (.cells #[.int .i64 b.first, .slice A n cap, .int .i64 b.rate] 28)).alloc (.cells #[.int .i64 h.kind, .int .i64 h.age, .int .i64 h.years, .int .i64 h.sum, .int .i64 h.load, .int .i64 h.year, .int .i64 h.count] 37)).alloc (.cells #[.int .i64 h.kind, .int .i64 h.age, .int .i64 h.years, .int .i64 h.sum, .int .i64 h.load, .int .i64 h.year, .int .i64 h.count] 37)).heap.size (some ⟨w.heap.size + 1 + 1, 0, none⟩) 7 (holdingRows [h]) by
    have h9 := Rd.new1 (w := ((w.alloc (.cells #[.int .i64 b.first, .slice A n cap, .int .i64 b.rate] 28)).alloc (.cells #[.int .i64 h.kind, .int .i64 h.age, .int .i64 h.years, .int .i64 h.sum, .int .i64 h.load, .int .i64 h.year, .int .i64 h.count] 37))) 37 h.row
    simp only [World.size_alloc] at h9 ⊢
    exact h9)
  have HF := Lib.hid (show ∀ x ∈ [h], x.fits by simpa using hf); clear hf
  unfold Holding.row at *
  have hcB := Lib.hid (Blk.agg (cs := [.int .i64 b.first, .slice A n cap, .int .i64 b.rate]) HB.out 0 [.int .i64 b.first, .slice A n cap, .int .i64 b.rate] rfl)
  have hcH := Lib.hid (Blk.agg (cs := [.int .i64 h.kind, .int .i64 h.age, .int .i64 h.years, .int .i64 h.sum, .int .i64 h.load, .int .i64 h.year, .int .i64 h.count]) HH.out 0 [.int .i64 h.kind, .int .i64 h.age, .int .i64 h.years, .int .i64 h.sum, .int .i64 h.load, .int .i64 h.year, .int .i64 h.count] rfl)
  cases hp : portB b [h]
  · have Q := Lib.hid (show addForP b h x = (0, 1) by simp [addForP, hp])
    go_enter Try.func14, Try.ntmps14
    go_wp2_with (first | (refine wpList_load_agg rfl 28 _ rfl ⟨w.heap.size, 0, none⟩ rfl [.int .i64 b.first, .slice A n cap, .int .i64 b.rate] hcB.out _ Try.underlying28 rfl Bas.size ?_) | (refine wpList_load_agg rfl 37 _ rfl ⟨w.heap.size + 1, 0, none⟩ rfl [.int .i64 h.kind, .int .i64 h.age, .int .i64 h.years, .int .i64 h.sum, .int .i64 h.load, .int .i64 h.year, .int .i64 h.count] hcH.out _ Try.underlying37 rfl Holding.size ?_))
    refine (spec_IsPortfolio_any b A n cap _ 1 1 [h] _ (HBT.out.past hb3) rfl (by omega) HX.out HF.out).mono ?_
    rw [hp]
    rintro e w1 ⟨rfl, hb1⟩
    have hb01 := (hbw.trans (hb3.mono hbw.size)).trans (hb1.mono (hbw.trans (hb3.mono hbw.size)).size)
    have HB2 := Lib.hid ((HB.out.below' hb3).below' hb1)
    have HH2 := Lib.hid ((HH.out.below' hb3).below' hb1)
    have HBT2 := Lib.hid ((HBT.out.past hb3).past hb1)
    have c6 : w1.cell? ⟨w.heap.size + 1, 6, none⟩ = some (.int .i64 h.count) := HH2.out.cell 6
    go_wp2
    go_ret2
    exact ⟨by rw [Q.out]; rfl, hb01⟩
  have HHO := Lib.hid ((port_hold hp).2 h (by simp))
  cases hi : inR x 0 1000000000
  · have Q := Lib.hid (show addForP b h x = (0, 2) by simp [addForP, hp, hi])
    go_enter Try.func14, Try.ntmps14
    go_wp2_with (first | (refine wpList_load_agg rfl 28 _ rfl ⟨w.heap.size, 0, none⟩ rfl [.int .i64 b.first, .slice A n cap, .int .i64 b.rate] hcB.out _ Try.underlying28 rfl Bas.size ?_) | (refine wpList_load_agg rfl 37 _ rfl ⟨w.heap.size + 1, 0, none⟩ rfl [.int .i64 h.kind, .int .i64 h.age, .int .i64 h.years, .int .i64 h.sum, .int .i64 h.load, .int .i64 h.year, .int .i64 h.count] hcH.out _ Try.underlying37 rfl Holding.size ?_))
    refine (spec_IsPortfolio_any b A n cap _ 1 1 [h] _ (HBT.out.past hb3) rfl (by omega) HX.out HF.out).mono ?_
    rw [hp]
    rintro e w1 ⟨rfl, hb1⟩
    have hb01 := (hbw.trans (hb3.mono hbw.size)).trans (hb1.mono (hbw.trans (hb3.mono hbw.size)).size)
    have HB2 := Lib.hid ((HB.out.below' hb3).below' hb1)
    have HH2 := Lib.hid ((HH.out.below' hb3).below' hb1)
    have HBT2 := Lib.hid ((HBT.out.past hb3).past hb1)
    have c6 : w1.cell? ⟨w.heap.size + 1, 6, none⟩ = some (.int .i64 h.count) := HH2.out.cell 6
    go_wp2_with (first | (go_at_call 57; refine (spec_l19Amount_any _ _).mono ?_; rintro e w' ⟨rfl, rfl⟩))
    go_ret2
    exact ⟨by rw [Q.out]; rfl, hb01⟩
  obtain ⟨x0, x1⟩ := inR_true.1 hi
  by_cases hc0 : h.count = 0
  · have Q := Lib.hid (show addForP b h x = (0, 5) by simp [addForP, hp, hi, hc0])
    have hz : (h.count == 0) = true := by simp [hc0]
    clear hc0
    go_enter Try.func14, Try.ntmps14
    go_wp2_with (first | (refine wpList_load_agg rfl 28 _ rfl ⟨w.heap.size, 0, none⟩ rfl [.int .i64 b.first, .slice A n cap, .int .i64 b.rate] hcB.out _ Try.underlying28 rfl Bas.size ?_) | (refine wpList_load_agg rfl 37 _ rfl ⟨w.heap.size + 1, 0, none⟩ rfl [.int .i64 h.kind, .int .i64 h.age, .int .i64 h.years, .int .i64 h.sum, .int .i64 h.load, .int .i64 h.year, .int .i64 h.count] hcH.out _ Try.underlying37 rfl Holding.size ?_))
    refine (spec_IsPortfolio_any b A n cap _ 1 1 [h] _ (HBT.out.past hb3) rfl (by omega) HX.out HF.out).mono ?_
    rw [hp]
    rintro e w1 ⟨rfl, hb1⟩
    have hb01 := (hbw.trans (hb3.mono hbw.size)).trans (hb1.mono (hbw.trans (hb3.mono hbw.size)).size)
    have HB2 := Lib.hid ((HB.out.below' hb3).below' hb1)
    have HH2 := Lib.hid ((HH.out.below' hb3).below' hb1)
    have HBT2 := Lib.hid ((HBT.out.past hb3).past hb1)
    have c6 : w1.cell? ⟨w.heap.size + 1, 6, none⟩ = some (.int .i64 h.count) := HH2.out.cell 6
    go_wp2_with (first | (go_at_call 57; refine (spec_l19Amount_any _ _).mono ?_; rintro e w' ⟨rfl, rfl⟩))
    go_ret2
    exact ⟨by rw [Q.out]; rfl, hb01⟩
  · have Q := Lib.hid (show addForP b h x = ((addP b h x).1, 0) by simp [addForP, hp, hi, hc0])
    have hz : (h.count == 0) = false := by simp [hc0]
    have hc : 1 ≤ h.count := by obtain ⟨⟨c0, _⟩, _⟩ := hold_ok HHO.out; omega
    clear hc0
    go_enter Try.func14, Try.ntmps14
    go_wp2_with (first | (refine wpList_load_agg rfl 28 _ rfl ⟨w.heap.size, 0, none⟩ rfl [.int .i64 b.first, .slice A n cap, .int .i64 b.rate] hcB.out _ Try.underlying28 rfl Bas.size ?_) | (refine wpList_load_agg rfl 37 _ rfl ⟨w.heap.size + 1, 0, none⟩ rfl [.int .i64 h.kind, .int .i64 h.age, .int .i64 h.years, .int .i64 h.sum, .int .i64 h.load, .int .i64 h.year, .int .i64 h.count] hcH.out _ Try.underlying37 rfl Holding.size ?_))
    refine (spec_IsPortfolio_any b A n cap _ 1 1 [h] _ (HBT.out.past hb3) rfl (by omega) HX.out HF.out).mono ?_
    rw [hp]
    rintro e w1 ⟨rfl, hb1⟩
    have hb01 := (hbw.trans (hb3.mono hbw.size)).trans (hb1.mono (hbw.trans (hb3.mono hbw.size)).size)
    have HB2 := Lib.hid ((HB.out.below' hb3).below' hb1)
    have HH2 := Lib.hid ((HH.out.below' hb3).below' hb1)
    have HBT2 := Lib.hid ((HBT.out.past hb3).past hb1)
    have c6 : w1.cell? ⟨w.heap.size + 1, 6, none⟩ = some (.int .i64 h.count) := HH2.out.cell 6
    have hcB2 := Lib.hid (Blk.agg (cs := [.int .i64 b.first, .slice A n cap, .int .i64 b.rate]) HB2.out 0 [.int .i64 b.first, .slice A n cap, .int .i64 b.rate] rfl)
    have hcH2 := Lib.hid (Blk.agg (cs := [.int .i64 h.kind, .int .i64 h.age, .int .i64 h.years, .int .i64 h.sum, .int .i64 h.load, .int .i64 h.year, .int .i64 h.count]) HH2.out 0 [.int .i64 h.kind, .int .i64 h.age, .int .i64 h.years, .int .i64 h.sum, .int .i64 h.load, .int .i64 h.year, .int .i64 h.count] rfl)
    go_wp2_with (first | (go_at_call 57; refine (spec_l19Amount_any _ _).mono ?_; rintro e w' ⟨rfl, rfl⟩) | (go_at_call 64; fail) | (refine wpList_load_agg rfl 28 _ rfl ⟨w.heap.size, 0, none⟩ rfl [.int .i64 b.first, .slice A n cap, .int .i64 b.rate] hcB2.out _ Try.underlying28 rfl Bas.size ?_) | (refine wpList_load_agg rfl 37 _ rfl ⟨w.heap.size + 1, 0, none⟩ rfl [.int .i64 h.kind, .int .i64 h.age, .int .i64 h.years, .int .i64 h.sum, .int .i64 h.load, .int .i64 h.year, .int .i64 h.count] hcH2.out _ Try.underlying37 rfl Holding.size ?_))
    refine (spec_l19Addition_any b A n cap h x _ HBT2.out HHO.out ⟨x0, x1⟩).mono ?_
    rintro e w2 ⟨rfl, hb2⟩
    go_wp2
    go_ret2
    exact ⟨by rw [Q.out]; rfl, hb01.trans (hb2.mono hb01.size)⟩

end Go.Proofs.Ytbjdbpdgacfcpaa
end
