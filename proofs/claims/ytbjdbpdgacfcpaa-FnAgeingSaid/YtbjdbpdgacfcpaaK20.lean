/- Parts of a proof, one after another: AddQ, RlQ, Lv7. No condition. -/
import Derived.Test.YtbjdbpdgacfcpaaK14
import Derived.Test.YtbjdbpdgacfcpaaK16
import Derived.Test.YtbjdbpdgacfcpaaK19
/- Plain laws of additions: an addition costs at most the bonus; what is left over is never negative; holdings with additions are a portfolio. -/
section
namespace Go.Proofs.Ytbjdbpdgacfcpaa
open Go.RowKit Go.BigFrame

theorem port_one {b : Bas} {h : Holding} (H : portB b [h] = true) : basisB b = true ∧ holdB b h = true := by
  simp only [portB, Bool.and_eq_true, List.all_cons, List.all_nil, Bool.and_true] at H
  exact ⟨H.1, H.2.2⟩
theorem addFor_good {b : Bas} {h : Holding} {x : Int} (H : (addForP b h x).2 = 0) (hp : 0 < (addForP b h x).1) :
    basisB b = true ∧ assurB b h.kind (h.age + h.year) (leftP h.pol h.year) (addForP b h x).1 = true ∧ b.d (h.age + h.year) ≠ 0 ∧
    0 ≤ priceP b h.kind (h.age + h.year) (leftP h.pol h.year) (addForP b h x).1 * h.count ∧ priceP b h.kind (h.age + h.year) (leftP h.pol h.year) (addForP b h x).1 * h.count ≤ x ∧ x ≤ 1000000000 ∧ (0 ≤ h.year ∧ h.year ≤ 200) ∧ (0 ≤ h.age ∧ h.age ≤ 150) ∧ (0 ≤ h.years ∧ h.years ≤ 120) := by
  unfold addForP at H hp ⊢
  by_cases h1 : portB b [h] = true
  rotate_left
  · rw [if_neg h1] at H; simp at H
  rw [if_pos h1] at H hp ⊢
  by_cases h2 : inR x 0 1000000000 = true
  rotate_left
  · rw [if_neg h2] at H; simp at H
  rw [if_pos h2] at H hp ⊢
  by_cases h3 : h.count = 0
  · rw [if_pos h3] at H; simp at H
  rw [if_neg h3] at hp ⊢
  obtain ⟨hbs, hh⟩ := port_one h1
  have hx := inR_true.1 h2
  obtain ⟨⟨c0, c1⟩, Y⟩ := hold_ok hh
  have hb := addP_bound hh hx
  simp only at hp ⊢
  have e : addP b h x = addQ (x / h.count) (partT b h.pol h.year) (partD b h.pol h.year) := by unfold addP; rw [if_neg h3]
  have hq : (addP b h x).2 = priceP b h.kind (h.age + h.year) (leftP h.pol h.year) (addP b h x).1 := by
    rw [e]
    unfold addQ
    split
    · rename_i h0
      rw [e] at hp
      unfold addQ at hp
      rw [if_pos h0] at hp
      simp at hp
    · rfl
  rw [← hq, Int.mul_comm]
  have y0 := Y.k0; have y1 := Y.k1
  have hd := dur_bound Y.toPolOk
  have P := Y.toPolOk
  have B := P.toBasOk
  have k0 : 0 ≤ h.kind := P.kind0
  have k1 : h.kind ≤ 3 := P.kind1
  have a0 : b.first ≤ h.age := P.age0
  have a1 : h.age ≤ 150 := P.age1
  have n0 : 0 ≤ h.years := P.yrs0
  have n1 : h.years ≤ 120 := P.yrs1
  have e1 : h.age + h.years ≤ 150 := P.end1
  have z : h.years = 0 ↔ h.kind = 0 := P.zero
  have f0 := B.tab.first0
  have hdur : durP b h.pol = if h.kind = 0 then b.last - h.age else h.years := rfl
  have hlast : b.last = b.first + (b.lives.length : Int) - 1 := rfl
  have htop := B.tab.top
  have hl : leftP h.pol h.year = if h.kind = 0 then 0 else h.years - h.year := rfl
  refine ⟨hbs, assur_mk ⟨B.rate0, B.rate1⟩ ?_, (show b.d (h.pol.age + h.year) ≠ 0 by have := Y.d1; omega), hb.2.2.2.1, hb.2.2.2.2, hx.2, ?_, ?_, ?_⟩
  · rw [hl]
    by_cases hk : h.kind = 0
    · rw [if_pos hk] at hdur ⊢
      exact ⟨k0, k1, by omega, by omega, by omega, by omega, by omega, by omega, by omega, by omega⟩
    · rw [if_neg hk] at hdur ⊢
      exact ⟨k0, k1, by omega, by omega, by omega, by omega, by omega, by omega, by omega, by omega⟩
  · omega
  · omega
  · omega

theorem hold_plus {b : Bas} {h : Holding} {q : Int} (H : holdB b h = true) (hq : 0 ≤ q) (hs : h.sum + q ≤ 100000000) : holdB b (h.plus q) = true := by
  simp only [holdB, Bool.and_eq_true, beq_iff_eq] at H ⊢
  refine ⟨H.1, ?_⟩
  have hc := H.2
  have hpb : polB b h.pol = true := by
    unfold resCode at hc
    by_cases h0 : polB b h.pol = true
    · exact h0
    · rw [if_neg h0] at hc; simp at hc
  have P := pol_ok hpb
  have s0 : 1 ≤ h.sum := P.sum0
  have hpb2 : polB b (h.plus q).pol = true := by
    simp only [polB, assurB, Bool.and_eq_true] at hpb ⊢
    obtain ⟨p1, ⟨p2, p3, p4, p5, p6⟩, p7, p8⟩ := hpb
    exact ⟨p1, ⟨p2, p3, p4, by rw [inR_true]; show 1 ≤ h.sum + q ∧ h.sum + q ≤ 100000000; omega, p6⟩, p7, p8⟩
  unfold resCode at hc ⊢
  rw [if_pos hpb] at hc
  rw [if_pos hpb2]
  exact hc
theorem adds_good {b : Bas} {xs : List Holding} {ys : List Int} (H : (addsP b xs ys).2.2 = 0) :
    portB b xs = true ∧ ys.length = xs.length ∧ (∀ y ∈ ys, 0 ≤ y ∧ y ≤ 1000000000) ∧ addsP b xs ys = (addH b xs ys, addLeft b xs ys, 0) ∧ (0 ≤ addLeft b xs ys ∧ addLeft b xs ys ≤ ys.sum) ∧ portB b (addH b xs ys) = true ∧
    (∀ (k : Nat) (x z : Holding), xs[k]? = some x → (addH b xs ys)[k]? = some z → x.sum ≤ z.sum ∧ z.count = x.count ∧ z.year = x.year) := by
  unfold addsP at H ⊢
  by_cases h1 : portB b xs = true
  rotate_left
  · rw [if_neg h1] at H; simp at H
  rw [if_pos h1] at H ⊢
  by_cases h2 : ys.length = xs.length ∧ ys.all (fun y => inR y 0 1000000000) = true
  rotate_left
  · rw [if_neg h2] at H; simp at H
  rw [if_pos h2] at H ⊢
  by_cases h3 : addB b xs ys = true
  rotate_left
  · rw [if_neg h3] at H; simp at H
  rw [if_pos h3]
  have hy : ∀ y ∈ ys, 0 ≤ y ∧ y ≤ 1000000000 := fun y hy' => inR_true.1 (List.all_eq_true.1 h2.2 y hy')
  obtain ⟨hl, hh⟩ := port_hold h1
  have hB : ∀ z ∈ addH b xs ys, z.sum ≤ 100000000 := fun z hz => by
    have := List.all_eq_true.1 h3 z hz
    simpa using this
  refine ⟨h1, h2.1, hy, rfl, ?_, ?_, ?_⟩
  · have key : ∀ (xs : List Holding) (ys : List Int), (∀ x ∈ xs, holdB b x = true) → (∀ y ∈ ys, 0 ≤ y ∧ y ≤ 1000000000) → ys.length = xs.length → 0 ≤ addLeft b xs ys ∧ addLeft b xs ys ≤ ys.sum := by
      intro xs
      induction xs with
      | nil =>
        intro ys _ _ hl
        have : ys = [] := List.eq_nil_of_length_eq_zero (by simpa using hl)
        subst this
        simp [addLeft]
      | cons x xs ih =>
        intro ys hx hy hl
        match ys, hl, hy with
        | y :: ys, hl, hy =>
          have h4 := ih ys (fun z hz => hx z (by simp [hz])) (fun z hz => hy z (by simp [hz])) (by simpa using hl)
          have h5 := addP_bound (hx x (by simp)) (hy y (by simp))
          have e : addLeft b (x :: xs) (y :: ys) = (y - x.count * (addP b x y).2) + addLeft b xs ys := by simp [addLeft]
          rw [e, List.sum_cons]
          omega
    exact key xs ys hh hy h2.1
  · simp only [portB, Bool.and_eq_true, decide_eq_true_eq, List.all_eq_true]
    refine ⟨by simp only [portB, Bool.and_eq_true] at h1; exact h1.1, by simp [addH]; omega, fun z hz => ?_⟩
    obtain ⟨k, hk⟩ := List.mem_iff_getElem?.1 hz
    unfold addH at hk
    rw [List.getElem?_zipWith] at hk
    cases hx : xs[k]? with
    | none => simp [hx] at hk
    | some x =>
      cases hy' : ys[k]? with
      | none => simp [hx, hy'] at hk
      | some y =>
        simp only [hx, hy', Option.some.injEq] at hk
        subst hk
        have hb := addP_bound (hh x (List.mem_of_getElem? hx)) (hy y (List.mem_of_getElem? hy'))
        exact hold_plus (hh x (List.mem_of_getElem? hx)) hb.1.1 (hB _ hz)
  · intro k x z hx hz
    unfold addH at hz
    rw [List.getElem?_zipWith, hx] at hz
    cases hy' : ys[k]? with
    | none => simp [hy'] at hz
    | some y =>
      simp only [hy', Option.some.injEq] at hz
      subst hz
      have hb := addP_bound (hh x (List.mem_of_getElem? hx)) (hy y (List.mem_of_getElem? hy'))
      exact ⟨by show x.sum ≤ x.sum + (addP b x y).1; omega, rfl, rfl⟩
theorem hold_fits {b : Bas} {h : Holding} (H : holdB b h = true) : h.fits := by
  obtain ⟨⟨c0, c1⟩, Y⟩ := hold_ok H
  have P := Y.toPolOk
  have k0 : 0 ≤ h.kind := P.kind0
  have k1 : h.kind ≤ 3 := P.kind1
  have a0 : b.first ≤ h.age := P.age0
  have a1 : h.age ≤ 150 := P.age1
  have n0 : 0 ≤ h.years := P.yrs0
  have n1 : h.years ≤ 120 := P.yrs1
  have s0 : 1 ≤ h.sum := P.sum0
  have s1 : h.sum ≤ 100000000 := P.sum1
  have l0 : 0 ≤ h.load := P.load0
  have l1 : h.load ≤ 1000 := P.load1
  have f0 := P.tab.first0
  have y0 := Y.k0; have y1 := Y.k1
  have hd := dur_bound P
  exact ⟨by unfold In64; omega, by unfold In64; omega, by unfold In64; omega, by unfold In64; omega, by unfold In64; omega, by unfold In64; omega, by unfold In64; omega⟩
theorem port_fits {b : Bas} {xs : List Holding} (H : portB b xs = true) : ∀ x ∈ xs, x.fits := fun x hx => hold_fits ((port_hold H).2 x hx)
theorem addH_small {b : Bas} {xs : List Holding} {ys : List Int} : (addH b xs ys).length ≤ xs.length := by simp [addH]; omega
end Go.Proofs.Ytbjdbpdgacfcpaa
end

/- Years kept and the best year of leaving: plain laws. No program. -/
section
namespace Go.Proofs.Ytbjdbpdgacfcpaa
open Go.RowKit Go.BigFrame
theorem pol_basis {b : Bas} {p : Policy} (h : polB b p = true) : basisB b = true := by
  simp only [polB, Bool.and_eq_true] at h; exact h.1
theorem kept_assur {b : Bas} {p : Policy} {k m : Int} (Y : YearOk b p k) (h1 : 1 ≤ m) (h2 : m ≤ durP b p - k) : assurB b 1 (p.age + k) m p.sum = true := by
  have hd := dur_small Y.toPolOk
  have a0 := Y.age0; have a1 := Y.end1; have k0 := Y.k0; have s0 := Y.sum0; have s1 := Y.sum1
  have T := Y.tab
  have t1 := T.top
  have he : p.age + durP b p ≤ 150 := by
    unfold durP Bas.last
    split <;> omega
  exact assur_mk ⟨Y.rate0, Y.rate1⟩ ⟨by omega, by omega, by omega, by omega, s0, s1, by omega, by omega, by omega, by omega⟩
theorem kept_price {b : Bas} {p : Policy} {k m : Int} (Y : YearOk b p k) : (0 ≤ b.top 1 (p.age + k) m ∧ b.top 1 (p.age + k) m ≤ partD b p k) ∧ (0 ≤ p.sum * b.top 1 (p.age + k) m / partD b p k ∧ p.sum * b.top 1 (p.age + k) m / partD b p k ≤ 100000000) ∧ (0 ≤ priceP b 1 (p.age + k) m p.sum ∧ priceP b 1 (p.age + k) m p.sum ≤ 100000000) := by
  have h1 := top_bound Y.toBasOk 1 (p.age + k) m
  have h2 := Y.d1
  have h3 := mul_div_le (a := p.sum) (m := 1) (by have := Y.sum0; omega) h1.1 h2 (by omega)
  have h4 := up_le (a := p.sum) (by have := Y.sum0; omega) h1.1 h2 h1.2
  have h5 := Y.sum1
  unfold partD priceP
  exact ⟨h1, ⟨h3.1, by omega⟩, h4.1, by omega⟩
theorem keptM_pos {b : Bas} {p : Policy} {k v : Int} {m : Nat} (h : priceP b 1 (p.age + k) ((m : Int) + 1) p.sum ≤ v) : keptM b p k v (m + 1) = m + 1 := by
  show (if _ then m + 1 else keptM b p k v m) = m + 1
  rw [if_pos h]
theorem keptM_neg {b : Bas} {p : Policy} {k v : Int} {m : Nat} (h : ¬ priceP b 1 (p.age + k) ((m : Int) + 1) p.sum ≤ v) : keptM b p k v (m + 1) = keptM b p k v m := by
  show (if _ then m + 1 else keptM b p k v m) = _
  rw [if_neg h]
theorem midB_at {b : Bas} {p : Policy} {k n : Nat} (h : midB b p n = true) (h2 : 2 ≤ k) (hk : k < n) : ¬ partD b p (k : Int) = 0 := by
  simp only [midB, List.all_eq_true, List.mem_range, decide_eq_true_eq] at h
  exact h k hk h2
theorem midB_succ {b : Bas} {p : Policy} {k : Nat} (h : midB b p k = true) (hd : ¬ partD b p (k : Int) = 0) : midB b p (k + 1) = true := by
  simp only [midB, List.all_eq_true, List.mem_range, decide_eq_true_eq] at h ⊢
  intro j hj h2
  by_cases e : j = k
  · subst e; exact hd
  · exact h j (by omega) h2
theorem midB_stop {b : Bas} {p : Policy} {k n : Nat} (h2 : 2 ≤ k) (hk : k < n) (hd : partD b p (k : Int) = 0) : midB b p n = false := by
  cases h : midB b p n
  · rfl
  · exact absurd hd (midB_at h h2 hk)
theorem midB_two (b : Bas) (p : Policy) : midB b p 2 = true := by
  simp only [midB, List.all_eq_true, List.mem_range, decide_eq_true_eq]
  intro j hj h2; omega
/-- the best year so far, behind the years below k -/
def bstP (b : Bas) (p : Policy) (k : Nat) : Int × Int := if k ≤ 2 then (-1, 0) else (((bestAt b p (k - 3)).1 : Int), (bestAt b p (k - 3)).2)
theorem bst_two (b : Bas) (p : Policy) : bstP b p 2 = (-1, 0) := rfl
theorem bst_three (b : Bas) (p : Policy) : bstP b p 3 = (2, bestN b p 2) := rfl
theorem bst_ge (b : Bas) (p : Policy) (j : Nat) : bstP b p (j + 3) = (((bestAt b p j).1 : Int), (bestAt b p j).2) := if_neg (by omega)
theorem bst_succ {b : Bas} {p : Policy} {k : Nat} (h : 3 ≤ k) : bstP b p (k + 1) = if (bstP b p k).2 < bestN b p k then ((k : Int), bestN b p k) else bstP b p k := by
  obtain ⟨j, rfl⟩ : ∃ j, k = j + 3 := ⟨k - 3, by omega⟩
  rw [show j + 3 + 1 = (j + 1) + 3 by omega, bst_ge, bst_ge]
  show ((((if (bestAt b p j).2 < bestN b p (j + 3) then (j + 3, bestN b p (j + 3)) else bestAt b p j).1 : Nat) : Int), (if (bestAt b p j).2 < bestN b p (j + 3) then (j + 3, bestN b p (j + 3)) else bestAt b p j).2) = _
  by_cases hc : (bestAt b p j).2 < bestN b p (j + 3)
  · rw [if_pos hc, if_pos hc]
  · rw [if_neg hc, if_neg hc]
theorem bst_pos {b : Bas} {p : Policy} {k : Nat} (h : 3 ≤ k) : 2 ≤ (bstP b p k).1 := by
  obtain ⟨j, rfl⟩ : ∃ j, k = j + 3 := ⟨k - 3, by omega⟩
  clear h
  induction j with
  | zero => exact Int.le_refl 2
  | succ j ih =>
    rw [show j + 1 + 3 = (j + 3) + 1 by omega, bst_succ (by omega)]
    split
    · show (2 : Int) ≤ ((j + 3 : Nat) : Int); omega
    · exact ih
end Go.Proofs.Ytbjdbpdgacfcpaa
end

/- The best year of leaving: the reference; office premiums (printed by lv2.py). -/
section
namespace Go.Proofs.Ytbjdbpdgacfcpaa
open Go.RowKit Go.BigFrame

set_option maxRecDepth 20000 in
set_option maxHeartbeats 8000000 in
theorem spec_BestLeaving_any (b : Bas) (A : Option Addr) (n cap : Nat) (p : Policy) (w : World) (hB : BasT w A n cap b) (hp : p.fits) :
    Calls Try.prog 46 #[.agg #[.int .i64 b.first, .slice A n cap, .int .i64 b.rate], .agg p.row.toArray] w fun e w' => e = .returned (.tuple #[.int .i64 (bestP b p).1, .int .i64 (bestP b p).2.1, .int .i64 (bestP b p).2.2]) ∧ Below w.heap.size w w' := by
  unfold Policy.row
  have HB := Lib.hid (Below.refl w.heap.size w)
  have HH := Lib.hid (Held.nil w)
  have HT := Lib.hid hB; clear hB
  obtain ⟨hb, hr0, hr1⟩ := box2 (w := w) (tx := 28) (ty := 35) (X := [.int .i64 b.first, .slice A n cap, .int .i64 b.rate]) (Y := [.int .i64 p.kind, .int .i64 p.age, .int .i64 p.years, .int .i64 p.sum, .int .i64 p.load])
  replace HB := Lib.hid (below_all HB.out hb)
  replace HT := Lib.hid (HT.out.past hb)
  replace HH := Lib.hid (((HH.out.past hb).cons hr0).cons hr1)
  clear hb hr0 hr1
  cases h1 : polB b p
  · skip
    have Q := Lib.hid (show bestP b p = (0, 0, 1) by unfold bestP; rw [if_neg (by simp [h1])])
    go_enter Try.func46, Try.ntmps46
    have HL_bx := Lib.hid (Rd.box (HH.out.get 1 rfl))
    have HL_px := Lib.hid (Rd.box (HH.out.get 0 rfl))
    go_wp2_with (first | (refine wpList_load_agg rfl 28 _ rfl ⟨w.heap.size, 0, none⟩ rfl [.int .i64 b.first, .slice A n cap, .int .i64 b.rate] HL_bx.out _ Try.underlying28 rfl Bas.size ?_) | (refine wpList_load_agg rfl 35 _ rfl ⟨w.heap.size + 1, 0, none⟩ rfl [.int .i64 p.kind, .int .i64 p.age, .int .i64 p.years, .int .i64 p.sum, .int .i64 p.load] HL_px.out _ Try.underlying35 rfl Policy.size ?_))
    clear HL_bx HL_px
    generalize ((w.alloc (.cells #[.int .i64 b.first, .slice A n cap, .int .i64 b.rate] 28)).alloc (.cells #[.int .i64 p.kind, .int .i64 p.age, .int .i64 p.years, .int .i64 p.sum, .int .i64 p.load] 35)) = v0 at HB HH HT ⊢
    generalize w.heap.size + 1 = g0_1 at HH ⊢
    generalize w.heap.size = g0_0 at HH ⊢
    refine (spec_IsPolicy_any b A n cap p _ HT.out hp).mono ?_
    rw [h1]
    rintro e w1 ⟨rfl, hb⟩
    replace HB := Lib.hid (below_all HB.out hb)
    replace HT := Lib.hid (HT.out.past hb)
    replace HH := Lib.hid (HH.out.past hb)
    clear hb
    go_wp2
    go_ret3
    exact ⟨by rw [Q.out]; rfl, HB.out⟩
  · skip
    have H1 := Lib.hid h1
    have HPO := Lib.hid (pol_ok h1)
    obtain ⟨hn0, hn1, hn2⟩ := rlN_cast HPO.out
    have HNC := Lib.hid hn0; clear hn0
    have hdb := dur_small HPO.out
    have ha0 := HPO.out.age0; have ha1 := HPO.out.age1; have hf0 := HPO.out.tab.first0; have hf1 := HPO.out.tab.first1
    obtain ⟨o0, o1, o2, o3⟩ := office_bound HPO.out
    have o4 : 0 ≤ officeP b p := by have := (net_bound HPO.out).1; omega
    obtain ⟨O, hO⟩ : ∃ O, O = officeP b p := ⟨_, rfl⟩
    rw [← hO] at o2 o3 o4
    have HO := Lib.hid (show officeP b p = O from hO.symm)
    clear hO o0 o1 o2
    have QR := Lib.hid (show bestP b p = if durP b p ≤ 2 then (0, 0, 4) else if midB b p (rlN b p) = true then (((bestAt b p (rlN b p - 3)).1 : Int), (bestAt b p (rlN b p - 3)).2, 0) else (0, 0, 5) by unfold bestP; rw [if_pos H1.out])
    go_enter Try.func46, Try.ntmps46
    have HL_bx := Lib.hid (Rd.box (HH.out.get 1 rfl))
    have HL_px := Lib.hid (Rd.box (HH.out.get 0 rfl))
    go_wp2_with (first | (refine wpList_load_agg rfl 28 _ rfl ⟨w.heap.size, 0, none⟩ rfl [.int .i64 b.first, .slice A n cap, .int .i64 b.rate] HL_bx.out _ Try.underlying28 rfl Bas.size ?_) | (refine wpList_load_agg rfl 35 _ rfl ⟨w.heap.size + 1, 0, none⟩ rfl [.int .i64 p.kind, .int .i64 p.age, .int .i64 p.years, .int .i64 p.sum, .int .i64 p.load] HL_px.out _ Try.underlying35 rfl Policy.size ?_))
    clear HL_bx HL_px
    generalize ((w.alloc (.cells #[.int .i64 b.first, .slice A n cap, .int .i64 b.rate] 28)).alloc (.cells #[.int .i64 p.kind, .int .i64 p.age, .int .i64 p.years, .int .i64 p.sum, .int .i64 p.load] 35)) = v0 at HB HH HT ⊢
    generalize w.heap.size + 1 = g0_1 at HH ⊢
    generalize w.heap.size = g0_0 at HH ⊢
    refine (spec_IsPolicy_any b A n cap p _ HT.out hp).mono ?_
    rw [h1]
    rintro e w1 ⟨rfl, hb⟩
    replace HB := Lib.hid (below_all HB.out hb)
    replace HT := Lib.hid (HT.out.past hb)
    replace HH := Lib.hid (HH.out.past hb)
    clear hb
    have HH1 := HH
    have HT1 := HT
    have HB1 := HB
    go_wp2
    go_loopw [7, 8, 9, 10] (fun x m h i wr => ∃ (j : Nat) (ki xb xm : Int), (2 ≤ j ∧ (j ≤ rlN b p ∨ j = 2)) ∧ ki = (j : Int) ∧ ((3 ≤ j → xb = (bstP b p j).1 ∧ xm = (bstP b p j).2) ∧ h = .bool (decide (3 ≤ j))) ∧ midB b p j = true ∧ x = .int .i64 xb ∧ m = .int .i64 xm ∧ i = .int .i64 ki ∧ Below w1.heap.size w1 wr) (fun _ _ _ i _ => rlN b p + 3 - (intOf i).toNat)
    case atStart => exact ⟨2, 2, 0, 0, ⟨by omega, by omega⟩, rfl, ⟨fun h => by omega, rfl⟩, midB_two b p, rfl, rfl, rfl, Below.refl _ _⟩
    case round =>
      clear HB HH HT
      obtain ⟨j, ki, xb, xm, ⟨hj2, hjn⟩, hki, ⟨hxx, hxh⟩, hmid, rfl, rfl, rfl, hb⟩ := hrel
      have HKI := Lib.hid hki; clear hki
      have HXX := Lib.hid hxx; clear hxx
      have HMI := Lib.hid hmid; clear hmid
      have HW := Lib.hid hb
      have HH := Lib.hid (HH1.out.past hb)
      have HT := Lib.hid (HT1.out.past hb)
      have HB := Lib.hid (HB1.out.trans (hb.mono HB1.out.size))
      clear hb
      have hk0 : 0 ≤ ki := by have := HKI.out; omega
      have hk9 : ki ≤ 1000 := by have := HKI.out; omega
      obtain ⟨xf, hxf⟩ : ∃ xf : Bool, xf = decide (3 ≤ j) := ⟨_, rfl⟩
      rw [← hxf] at hxh
      subst hxh
      have HXF := Lib.hid hxf; clear hxf
      have HL_bx := Lib.hid (Rd.box (HH.out.get 1 rfl))
      have HL_px := Lib.hid (Rd.box (HH.out.get 0 rfl))
      go_wp2_with (first | (refine wpList_load_agg rfl 28 _ rfl ⟨g0_0, 0, none⟩ rfl [.int .i64 b.first, .slice A n cap, .int .i64 b.rate] HL_bx.out _ Try.underlying28 rfl Bas.size ?_) | (refine wpList_load_agg rfl 35 _ rfl ⟨g0_1, 0, none⟩ rfl [.int .i64 p.kind, .int .i64 p.age, .int .i64 p.years, .int .i64 p.sum, .int .i64 p.load] HL_px.out _ Try.underlying35 rfl Policy.size ?_))
      clear HL_bx HL_px
      refine (spec_l10Duration_any b A n cap p _ HT.out HPO.out).mono ?_
      rintro e w2 ⟨rfl, hb⟩
      replace HW := Lib.hid (HW.out.trans (hb.mono HW.out.size))
      replace HB := Lib.hid (below_all HB.out hb)
      replace HT := Lib.hid (HT.out.past hb)
      replace HH := Lib.hid (HH.out.past hb)
      clear hb
      by_cases hlt : j < rlN b p
      · skip
        have hkl : ki < durP b p := by have := HKI.out; have := HNC.out; omega
        have hk1 : ki ≤ 120 := by omega
        have hp0 : 0 ≤ ki * O := Int.mul_nonneg hk0 o4
        have hp1 : ki * O ≤ 120 * 200000000 := Int.mul_le_mul hk1 o3 o4 (by omega)
        obtain ⟨D, hD⟩ : ∃ D, D = partD b p ki := ⟨_, rfl⟩
        have HTV := Lib.hid hD
        have p0 : w2.cell? ⟨g0_1, 0, none⟩ = some (.int .i64 p.kind) := Rd.bcell (HH.out.get 0 rfl) 0 rfl
        have p1 : w2.cell? ⟨g0_1, 1, none⟩ = some (.int .i64 p.age) := Rd.bcell (HH.out.get 0 rfl) 1 rfl
        have p2 : w2.cell? ⟨g0_1, 2, none⟩ = some (.int .i64 p.years) := Rd.bcell (HH.out.get 0 rfl) 2 rfl
        have p3 : w2.cell? ⟨g0_1, 3, none⟩ = some (.int .i64 p.sum) := Rd.bcell (HH.out.get 0 rfl) 3 rfl
        have p4 : w2.cell? ⟨g0_1, 4, none⟩ = some (.int .i64 p.load) := Rd.bcell (HH.out.get 0 rfl) 4 rfl
        have q0 : w2.cell? ⟨g0_0, 0, none⟩ = some (.int .i64 b.first) := Rd.bcell (HH.out.get 1 rfl) 0 rfl
        have q1 : w2.cell? ⟨g0_0, 1, none⟩ = some (.slice A n cap) := Rd.bcell (HH.out.get 1 rfl) 1 rfl
        have q2 : w2.cell? ⟨g0_0, 2, none⟩ = some (.int .i64 b.rate) := Rd.bcell (HH.out.get 1 rfl) 2 rfl
        have HL_tx := Lib.hid (Rd.boxT (HH.out.get 1 rfl))
        go_wp2_with (refine wpList_load_agg rfl 26 _ rfl ⟨g0_0, 0, none⟩ rfl [.int .i64 b.first, .slice A n cap] HL_tx.out _ Try.underlying26 rfl Tab.size ?_)
        clear HL_tx
        clear p0 p1 p2 p3 p4
        clear q0 q1 q2
        refine (spec_l05D_at b A n cap (p.age + ki) _ HT.out HPO.out.toBasOk ⟨by omega, by omega⟩).mono ?_
        rw [show b.d (p.age + ki) = D from hD.symm]
        rintro e w3 ⟨rfl, hb⟩
        clear hD
        replace HW := Lib.hid (HW.out.trans (hb.mono HW.out.size))
        replace HB := Lib.hid (below_all HB.out hb)
        replace HT := Lib.hid (HT.out.past hb)
        replace HH := Lib.hid (HH.out.past hb)
        clear hb
        by_cases hd : D = 0
        · skip
          have hdz : (D == 0) = true := by simp [hd]
          have hd2 : partD b p (j : Int) = 0 := by rw [← HKI.out, ← HTV.out]; exact hd
          have Q := Lib.hid ((QR.out.trans (if_neg (by have := HNC.out; have := HKI.out; omega))).trans (if_neg (by rw [midB_stop hj2 hlt hd2]; simp)))
          clear hd hd2
          go_wp2
          go_ret3
          exact ⟨by rw [Q.out]; rfl, HB.out⟩
        · skip
          have hdz : (D == 0) = false := by simp [hd]
          have hd2 : ¬ partD b p (j : Int) = 0 := by rw [← HKI.out, ← HTV.out]; exact hd
          have HY := Lib.hid (show YearOk b p ki by rw [HKI.out]; exact year_at HPO.out hlt hd2)
          obtain ⟨⟨r0, r1⟩, u0, u1⟩ := val_bound HY.out
          have HMS := Lib.hid (midB_succ HMI.out hd2)
          obtain ⟨V, hV⟩ : ∃ V, V = valV b p ki := ⟨_, rfl⟩
          rw [← hV] at u0 u1
          have HVE := Lib.hid (show valV b p ki = V from hV.symm)
          have HBN := Lib.hid (show bestN b p j = V - ki * O by unfold bestN; rw [HO.out, hV, HKI.out])
          clear hd hd2 hV
          go_wp2
          have hQ_bx := Lib.hid (Past.cells' (Rd.box (HH.out.get 1 rfl)))
          have hQ_px := Lib.hid (Past.cells' (Rd.box (HH.out.get 0 rfl)))
          refine wp_region_past (by kernel_rfl) (by kernel_rfl) ?_
          repeat (first | (go_big_quiet_want; (first | (first | (refine quiet_load_agg 28 _ rfl ⟨g0_0, 0, none⟩ rfl [.int .i64 b.first, .slice A n cap, .int .i64 b.rate] hQ_bx.out _ Try.underlying28 rfl Bas.size ?_) | (refine quiet_load_agg 35 _ rfl ⟨g0_1, 0, none⟩ rfl [.int .i64 p.kind, .int .i64 p.age, .int .i64 p.years, .int .i64 p.sum, .int .i64 p.load] hQ_px.out _ Try.underlying35 rfl Policy.size ?_))); go_simp; go_big_quiet_on) | go_big_quiet_step ((first | (go_at_call 92; exact past_call ((spec_l12Value_any b A n cap p ki _ (HT.out.at_past _) HY.out).mono (by rw [HVE.out]; exact fun _ _ h => h))) | (go_at_call 98; exact past_call ((spec_l10Office_any b A n cap p _ (HT.out.at_past _) HPO.out).mono (by rw [HO.out]; exact fun _ _ h => h))))))
          refine wpQuiet_nil ?_
          rintro _ ⟨y, rfl⟩
          have hb := y.2
          replace HW := Lib.hid (HW.out.trans (hb.mono HW.out.size))
          replace HB := Lib.hid (below_all HB.out hb)
          replace HT := Lib.hid (HT.out.past hb)
          replace HH := Lib.hid (HH.out.past hb)
          clear hb
          clear hQ_bx hQ_px
          by_cases hj : j = 2
          · skip
            have hxl : xf = false := by rw [HXF.out, hj]; rfl
            subst hxl
            have HN := Lib.hid (show bstP b p (j + 1) = (ki, V - ki * O) by rw [← HBN.out, HKI.out, hj]; rfl)
            clear hj
            have HF3 := Lib.hid (show true = decide (3 ≤ j + 1) by simp; omega)
            go_wp2
            go_roundw
            case rel => exact ⟨j + 1, ki + 1, ki, V - ki * O, ⟨by omega, .inl (by omega)⟩, by have := HKI.out; omega, ⟨fun _ => ⟨by rw [HN.out], by rw [HN.out]⟩, by rw [← HF3.out]⟩, HMS.out, rfl, rfl, by go_num, HW.out⟩
            case measure => have := HKI.out; simp [intOf]; omega
          · skip
            have hj3 : 3 ≤ j := by omega
            have hxl : xf = true := by rw [HXF.out]; simp; omega
            subst hxl
            have hbs := bst_succ (b := b) (p := p) (k := j) hj3
            rw [HBN.out, ← (HXX.out hj3).2, ← HKI.out] at hbs
            by_cases hc : xm < V - ki * O
            · skip
              rw [if_pos hc] at hbs
              have HN := Lib.hid hbs; clear hbs
              have hcb : decide (xm < V - ki * O) = true := by simp; omega
              clear hc
              have HF3 := Lib.hid (show true = decide (3 ≤ j + 1) by simp; omega)
              go_wp2
              go_roundw
              case rel => exact ⟨j + 1, ki + 1, ki, V - ki * O, ⟨by omega, .inl (by omega)⟩, by have := HKI.out; omega, ⟨fun _ => ⟨by rw [HN.out], by rw [HN.out]⟩, by rw [← HF3.out]⟩, HMS.out, rfl, rfl, by go_num, HW.out⟩
              case measure => have := HKI.out; simp [intOf]; omega
            · skip
              rw [if_neg hc] at hbs
              have HN := Lib.hid hbs; clear hbs
              have hcb : decide (xm < V - ki * O) = false := by simp; omega
              clear hc
              have HF3 := Lib.hid (show true = decide (3 ≤ j + 1) by simp; omega)
              go_wp2
              go_roundw
              case rel => exact ⟨j + 1, ki + 1, xb, xm, ⟨by omega, .inl (by omega)⟩, by have := HKI.out; omega, ⟨fun _ => ⟨by rw [HN.out]; exact (HXX.out hj3).1, by rw [HN.out]; exact (HXX.out hj3).2⟩, by rw [← HF3.out]⟩, HMS.out, rfl, rfl, by go_num, HW.out⟩
              case measure => have := HKI.out; simp [intOf]; omega
      · skip
        have hkl : ¬ ki < durP b p := by have := HKI.out; have := HNC.out; omega
        by_cases hj : j = 2
        · skip
          have hxl : xf = false := by rw [HXF.out, hj]; rfl
          subst hxl
          have Q := Lib.hid (QR.out.trans (if_pos (by have := HKI.out; omega)))
          clear hj
          go_wp2
          go_ret3
          exact ⟨by rw [Q.out]; rfl, HB.out⟩
        · skip
          have hj3 : 3 ≤ j := by omega
          have hxl : xf = true := by rw [HXF.out]; simp; omega
          subst hxl
          have hjn2 : j = rlN b p := by omega
          have hbg := bst_ge b p (rlN b p - 3)
          rw [show rlN b p - 3 + 3 = rlN b p by omega] at hbg
          have hM := HMI.out
          rw [hjn2] at hM
          have Q := Lib.hid ((QR.out.trans (if_neg (by have := HNC.out; omega))).trans (if_pos hM))
          have QX := Lib.hid (show ((bestAt b p (rlN b p - 3)).1 : Int) = xb by rw [(HXX.out hj3).1, hjn2, hbg])
          have QM := Lib.hid (show (bestAt b p (rlN b p - 3)).2 = xm by rw [(HXX.out hj3).2, hjn2, hbg])
          clear hbg hM hjn2 hj hj3
          go_wp2
          go_ret3
          exact ⟨by rw [Q.out, QX.out, QM.out]; rfl, HB.out⟩
set_option maxRecDepth 20000 in
set_option maxHeartbeats 8000000 in
theorem impl_OfficePremium_any (b : Bas) (A : Option Addr) (n cap : Nat) (p : Policy) (w : World) (hB : BasT w A n cap b) (hp : p.fits) :
    Calls Try.prog 47 #[.agg #[.int .i64 b.first, .slice A n cap, .int .i64 b.rate], .agg p.row.toArray] w fun e w' => e = .returned (.tuple #[.int .i64 (if polB b p = true then officeP b p else 0), .int .i64 (if polB b p = true then 0 else 1)]) ∧ Below w.heap.size w w' := by
  unfold Policy.row
  have HB := Lib.hid (Below.refl w.heap.size w)
  have HH := Lib.hid (Held.nil w)
  have HT := Lib.hid hB; clear hB
  obtain ⟨hb, hr0, hr1⟩ := box2 (w := w) (tx := 28) (ty := 35) (X := [.int .i64 b.first, .slice A n cap, .int .i64 b.rate]) (Y := [.int .i64 p.kind, .int .i64 p.age, .int .i64 p.years, .int .i64 p.sum, .int .i64 p.load])
  replace HB := Lib.hid (below_all HB.out hb)
  replace HT := Lib.hid (HT.out.past hb)
  replace HH := Lib.hid (((HH.out.past hb).cons hr0).cons hr1)
  clear hb hr0 hr1
  cases h1 : polB b p
  · skip
    go_enter Try.func47, Try.ntmps47
    have HL_bx := Lib.hid (Rd.box (HH.out.get 1 rfl))
    have HL_px := Lib.hid (Rd.box (HH.out.get 0 rfl))
    go_wp2_with (first | (refine wpList_load_agg rfl 28 _ rfl ⟨w.heap.size, 0, none⟩ rfl [.int .i64 b.first, .slice A n cap, .int .i64 b.rate] HL_bx.out _ Try.underlying28 rfl Bas.size ?_) | (refine wpList_load_agg rfl 35 _ rfl ⟨w.heap.size + 1, 0, none⟩ rfl [.int .i64 p.kind, .int .i64 p.age, .int .i64 p.years, .int .i64 p.sum, .int .i64 p.load] HL_px.out _ Try.underlying35 rfl Policy.size ?_))
    clear HL_bx HL_px
    generalize ((w.alloc (.cells #[.int .i64 b.first, .slice A n cap, .int .i64 b.rate] 28)).alloc (.cells #[.int .i64 p.kind, .int .i64 p.age, .int .i64 p.years, .int .i64 p.sum, .int .i64 p.load] 35)) = v0 at HB HH HT ⊢
    generalize w.heap.size + 1 = g0_1 at HH ⊢
    generalize w.heap.size = g0_0 at HH ⊢
    refine (impl_IsPolicy_any b A n cap p _ HT.out hp).mono ?_
    rw [h1]
    rintro e w1 ⟨rfl, hb⟩
    replace HB := Lib.hid (below_all HB.out hb)
    replace HT := Lib.hid (HT.out.past hb)
    replace HH := Lib.hid (HH.out.past hb)
    clear hb
    go_wp2
    go_ret2
    exact ⟨rfl, HB.out⟩
  · skip
    have H1 := Lib.hid h1
    go_enter Try.func47, Try.ntmps47
    have HL_bx := Lib.hid (Rd.box (HH.out.get 1 rfl))
    have HL_px := Lib.hid (Rd.box (HH.out.get 0 rfl))
    go_wp2_with (first | (refine wpList_load_agg rfl 28 _ rfl ⟨w.heap.size, 0, none⟩ rfl [.int .i64 b.first, .slice A n cap, .int .i64 b.rate] HL_bx.out _ Try.underlying28 rfl Bas.size ?_) | (refine wpList_load_agg rfl 35 _ rfl ⟨w.heap.size + 1, 0, none⟩ rfl [.int .i64 p.kind, .int .i64 p.age, .int .i64 p.years, .int .i64 p.sum, .int .i64 p.load] HL_px.out _ Try.underlying35 rfl Policy.size ?_))
    clear HL_bx HL_px
    generalize ((w.alloc (.cells #[.int .i64 b.first, .slice A n cap, .int .i64 b.rate] 28)).alloc (.cells #[.int .i64 p.kind, .int .i64 p.age, .int .i64 p.years, .int .i64 p.sum, .int .i64 p.load] 35)) = v0 at HB HH HT ⊢
    generalize w.heap.size + 1 = g0_1 at HH ⊢
    generalize w.heap.size = g0_0 at HH ⊢
    refine (impl_IsPolicy_any b A n cap p _ HT.out hp).mono ?_
    rw [h1]
    rintro e w1 ⟨rfl, hb⟩
    replace HB := Lib.hid (below_all HB.out hb)
    replace HT := Lib.hid (HT.out.past hb)
    replace HH := Lib.hid (HH.out.past hb)
    clear hb
    have HL_bx := Lib.hid (Rd.box (HH.out.get 1 rfl))
    have HL_px := Lib.hid (Rd.box (HH.out.get 0 rfl))
    go_wp2_with (first | (refine wpList_load_agg rfl 28 _ rfl ⟨g0_0, 0, none⟩ rfl [.int .i64 b.first, .slice A n cap, .int .i64 b.rate] HL_bx.out _ Try.underlying28 rfl Bas.size ?_) | (refine wpList_load_agg rfl 35 _ rfl ⟨g0_1, 0, none⟩ rfl [.int .i64 p.kind, .int .i64 p.age, .int .i64 p.years, .int .i64 p.sum, .int .i64 p.load] HL_px.out _ Try.underlying35 rfl Policy.size ?_))
    clear HL_bx HL_px
    refine (impl_officePremium_any b A n cap p _ HT.out H1.out).mono ?_
    rintro e w2 ⟨rfl, hb⟩
    replace HB := Lib.hid (below_all HB.out hb)
    replace HT := Lib.hid (HT.out.past hb)
    replace HH := Lib.hid (HH.out.past hb)
    clear hb
    go_wp2
    go_ret2
    exact ⟨rfl, HB.out⟩
end Go.Proofs.Ytbjdbpdgacfcpaa
end
