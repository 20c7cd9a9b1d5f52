/- Parts of a proof, one after another: Rate, LifeP, List, Life, Life2, LifeS, Within. No condition. -/
import Derived.Test.YtkdfdbcpbgganaaGreatDoorK0
import Derived.Test.YtkdfdbcpbgganaaGreatDoorK1
/- The discounts of a rate: the program's list and the reference's single one. -/
section
namespace Go.Proofs.YtkdfdbcpbgganaaGreatDoor
open Go.RowKit Go.BigFrame

def disc (rate : Int) : Nat → Int
  | 0 => 1000000000
  | k + 1 => disc rate k * 1000 / (1000 + rate)
theorem disc_bound {rate : Int} (hr : 0 ≤ rate) : ∀ k : Nat, 0 ≤ disc rate k ∧ disc rate k ≤ 1000000000
  | 0 => by simp [disc]
  | k + 1 => by
    obtain ⟨h1, h2⟩ := disc_bound hr k
    simp only [disc]
    refine ⟨Int.ediv_nonneg (by omega) (by omega), ?_⟩
    have h3 : disc rate k * 1000 / (1000 + rate) ≤ disc rate k * (1000 + rate) / (1000 + rate) := Int.ediv_le_ediv (by omega) (Int.mul_le_mul_of_nonneg_left (by omega) h1)
    rw [Int.mul_ediv_cancel _ (by omega)] at h3
    omega
def discL (rate : Int) (n : Nat) : List Int := (List.range n).map (disc rate)
theorem discL_succ (rate : Int) (k : Nat) : discL rate (k + 1) = discL rate k ++ [disc rate k] := by simp [discL, List.range_succ]
theorem discL_get (rate : Int) {n k : Nat} (h : k < n) : (discL rate n)[k]? = some (disc rate k) := by simp [discL, h]
theorem discL_length (rate : Int) (n : Nat) : (discL rate n).length = n := by simp [discL]

set_option maxHeartbeats 1000000 in
theorem impl_discounts_any (rate : Int) (w : World) (hr : 0 ≤ rate ∧ rate ≤ 200) :
    Calls Tryz.prog 103 #[.int .i64 rate] w fun e w' => ∃ A' c', e = .returned (.slice A' 121 c') ∧ Res w.heap.size w' 2 1 A' 121 c' (intRows (discL rate 121)) ∧ Below w.heap.size w w' := by
  obtain ⟨i0, hi0, hz0, hz1, hz2⟩ := info_parts Int64.info
  have HI := Lib.hid (And.intro hi0 (And.intro hz0 (And.intro hz1 hz2))); clear hi0 hz0 hz1 hz2
  obtain ⟨r1, r2⟩ := hr
  have HR0 := Lib.hid (Res.zero w w.heap.size 2 1 (Nat.le_refl _))
  have HD := Lib.hid (disc_bound r1)
  have hz : ¬ 1000 + rate = 0 := by omega
  go_enter Tryz.func103, Tryz.ntmps103
  go_wp2
  go_loopw [3, 4, 6] (fun o d i wr => ∃ (k : Nat) (A' : Option Addr) (c' : Nat), k ≤ 121 ∧ i = .int .i64 k ∧ d = .int .i64 (disc rate k) ∧ o = .slice A' k c' ∧ Res w.heap.size wr 2 1 A' k c' (intRows (discL rate k)) ∧ Below w.heap.size w wr) (fun _ _ i _ => 121 - (intOf i).toNat)
  case atStart => exact ⟨0, _, _, by omega, rfl, rfl, rfl, HR0.out, (Below.refl _ _).alloc (Nat.le_refl _) _⟩
  case round =>
    obtain ⟨k, A', c', hk, rfl, rfl, rfl, hR, hb⟩ := hrel
    have HR := Lib.hid hR; clear hR
    by_cases hlt : k < 121
    · have hd := HD.out k
      obtain ⟨d1, d2⟩ := hd
      have hlt' : (k : Int) < 121 := by omega
      have hsz : w.heap.size ≤ wr.heap.size := hb.size
      go_wp2_with (at_builtin; refine wpList_append_row wr rfl (.tmp 8) (.tmp 10) 24 rfl w.heap.size 2 i0 _ 1 8 Tryz.underlying24 HI.out.1 HI.out.2.1 HI.out.2.2.1 HI.out.2.2.2 rfl (by decide) (by decide) A' k c' _ rfl HR.out [.int .i64 (disc rate k)] _ rfl rfl (by simp [Value.oneCell']) (by omega) hsz ?_)
      intro B2 c2 w3 hR3 hb5
      have HR3 := Lib.hid hR3; clear hR3
      have hb6 : Below w.heap.size w w3 := hb.trans hb5
      go_wp2
      go_roundw
      case rel => exact ⟨k + 1, B2, c2, by omega, by go_num, rfl, rfl, by rw [discL_succ, intRows_snoc]; exact HR3.out, hb6⟩
      case measure => simp [intOf]; omega
    · have hkn : k = 121 := by omega
      subst hkn
      go_wp2
      go_ret
      exact ⟨A', c', rfl, HR.out, hb⟩

theorem spec_l04Discount_nat (rate : Int) (n : Nat) (w : World) (hr : 0 ≤ rate ∧ rate ≤ 200) (hn : n ≤ 1000) :
    Calls Tryz.prog 77 #[.int .i64 rate, .int .i64 n] w fun e w' => e = .returned (.int .i64 (disc rate n)) ∧ w = w' := by
  obtain ⟨r1, r2⟩ := hr
  have HD := Lib.hid (disc_bound r1)
  have hz : ¬ 1000 + rate = 0 := by omega
  go_enter Tryz.func77, Tryz.ntmps77
  go_wp2
  go_loop [5, 6] (fun d i => ∃ k : Nat, k ≤ n ∧ i = .int .i64 k ∧ d = .int .i64 (disc rate k)) (fun _ i => n - (intOf i).toNat)
  case atStart => exact ⟨0, by omega, rfl, rfl⟩
  case round =>
    obtain ⟨k, hk, rfl, rfl⟩ := hrel
    by_cases hlt : k < n
    · have hd := HD.out k
      obtain ⟨d1, d2⟩ := hd
      go_wp2
      go_round
      case rel => exact ⟨k + 1, by omega, by go_num, rfl⟩
      case measure => simp [intOf]; omega
    · have hkn : k = n := by omega
      subst hkn
      go_wp2
      go_ret
      exact ⟨rfl, rfl⟩
theorem spec_l04Discount_any (rate y : Int) (w : World) (hr : 0 ≤ rate ∧ rate ≤ 200) (hy : 0 ≤ y ∧ y ≤ 1000) :
    Calls Tryz.prog 77 #[.int .i64 rate, .int .i64 y] w fun e w' => e = .returned (.int .i64 (disc rate y.toNat)) ∧ w = w' := by
  obtain ⟨n, rfl⟩ := Int.eq_ofNat_of_zero_le hy.1
  rw [Int.toNat_natCast]
  exact spec_l04Discount_nat rate n w hr (by omega)
end Go.Proofs.YtkdfdbcpbgganaaGreatDoor
end

/- Life tables and their columns: plain functions and their laws. No program. -/
section
namespace Go.Proofs.YtkdfdbcpbgganaaGreatDoor
open Go.RowKit Go.BigFrame

/-- the lives at an index, 0 behind the table's end -/
def lv (xs : List Int) (k : Nat) : Int := xs.getD k 0
theorem lv_get {xs : List Int} {k : Nat} {x : Int} (h : xs[k]? = some x) : lv xs k = x := by simp [lv, h]
theorem lv_some {xs : List Int} {k : Nat} (h : k < xs.length) : xs[k]? = some (lv xs k) := by simp [lv, h]
theorem lv_past {xs : List Int} {k : Nat} (h : xs.length ≤ k) : lv xs k = 0 := by
  unfold lv; rw [List.getD_eq_getElem?_getD, List.getElem?_eq_none h]; rfl
/-- a row of the table that is as it must be -/
def rowB (xs : List Int) (i : Nat) : Bool := decide (1 ≤ lv xs i) && (decide (i = 0) || decide (lv xs i ≤ lv xs (i - 1)))
def headB (first : Int) (xs : List Int) : Bool := inR first 0 100 && (inR xs.length 2 120 && (decide (lv xs 0 ≤ 1000000) && (decide (lv xs (xs.length - 1) = 0) && decide (first + (xs.length : Int) - 1 ≤ 150))))
def tableB (first : Int) (xs : List Int) : Bool := headB first xs && (List.range (xs.length - 1)).all (rowB xs)
structure TabOk (first : Int) (xs : List Int) : Prop where
  first0 : 0 ≤ first
  first1 : first ≤ 100
  len0 : 2 ≤ xs.length
  len1 : xs.length ≤ 120
  top : first + (xs.length : Int) - 1 ≤ 150
  pos : ∀ k : Nat, k + 1 < xs.length → 1 ≤ lv xs k
  anti : ∀ k : Nat, lv xs (k + 1) ≤ lv xs k
  nonneg : ∀ k : Nat, 0 ≤ lv xs k
  most : ∀ k : Nat, lv xs k ≤ 1000000
  zero : ∀ k : Nat, xs.length ≤ k + 1 → lv xs k = 0
theorem table_ok {first : Int} {xs : List Int} (h : tableB first xs = true) : TabOk first xs := by
  simp only [tableB, headB, Bool.and_eq_true, inR_true, decide_eq_true_eq, List.all_eq_true, List.mem_range, rowB, Bool.or_eq_true] at h
  obtain ⟨⟨⟨f0, f1⟩, ⟨l0, l1⟩, hm, hz, ht⟩, hr⟩ := h
  have pos : ∀ k : Nat, k + 1 < xs.length → 1 ≤ lv xs k := fun k hk => (hr k (by omega)).1
  have zero : ∀ k : Nat, xs.length ≤ k + 1 → lv xs k = 0 := fun k hk => by
    by_cases e : k + 1 = xs.length
    · rw [show k = xs.length - 1 by omega]; exact hz
    · exact lv_past (by omega)
  have nonneg : ∀ k : Nat, 0 ≤ lv xs k := fun k => by
    by_cases hk : k + 1 < xs.length
    · have := pos k hk; omega
    · rw [zero k (by omega)]; omega
  have anti : ∀ k : Nat, lv xs (k + 1) ≤ lv xs k := fun k => by
    by_cases hk : k + 2 < xs.length
    · rcases (hr (k + 1) (by omega)).2 with h | h
      · omega
      · exact h
    · rw [zero (k + 1) (by omega)]; exact nonneg k
  have most : ∀ k : Nat, lv xs k ≤ 1000000 := fun k => by
    induction k with
    | zero => exact hm
    | succ k ih => have := anti k; omega
  exact ⟨f0, f1, by omega, by omega, ht, pos, anti, nonneg, most, zero⟩

theorem disc_anti {rate : Int} (hr : 0 ≤ rate) (k : Nat) : disc rate (k + 1) ≤ disc rate k := by
  have h1 := (disc_bound hr k).1
  have h3 : disc rate k * 1000 / (1000 + rate) ≤ disc rate k * (1000 + rate) / (1000 + rate) := Int.ediv_le_ediv (by omega) (Int.mul_le_mul_of_nonneg_left (by omega) h1)
  rw [Int.mul_ediv_cancel _ (by omega)] at h3
  exact h3

/-- f k + f (k + 1) + .. : m of them -/
def sumF (f : Nat → Int) (k : Nat) : Nat → Int
  | 0 => 0
  | m + 1 => f k + sumF f (k + 1) m
theorem sumF_snoc (f : Nat → Int) : ∀ (k m : Nat), sumF f k (m + 1) = sumF f k m + f (k + m)
  | k, 0 => by simp [sumF]
  | k, m + 1 => by
    have := sumF_snoc f (k + 1) m
    show f k + sumF f (k + 1) (m + 1) = f k + sumF f (k + 1) m + f (k + (m + 1))
    rw [this, show k + 1 + m = k + (m + 1) by omega]; omega
theorem sumF_zero {f : Nat → Int} : ∀ (k m : Nat), (∀ j, k ≤ j → f j = 0) → sumF f k m = 0
  | _, 0, _ => rfl
  | k, m + 1, h => by
    show f k + sumF f (k + 1) m = 0
    rw [h k (Nat.le_refl _), sumF_zero (k + 1) m fun j hj => h j (by omega)]; rfl
/-- the sum to the table's end, and any longer one -/
theorem sumF_end {f : Nat → Int} {e : Nat} (hz : ∀ j, e ≤ j → f j = 0) : ∀ (k m : Nat), e ≤ k + m → sumF f k m = sumF f k (e - k)
  | k, 0, h => by rw [show e - k = 0 by omega]
  | k, m + 1, h => by
    by_cases hk : e ≤ k
    · rw [sumF_zero k _ fun j hj => hz j (by omega), show e - k = 0 by omega]; rfl
    · rw [show e - k = (e - (k + 1)) + 1 by omega]
      show f k + sumF f (k + 1) m = f k + sumF f (k + 1) (e - (k + 1))
      rw [sumF_end hz (k + 1) m (by omega)]
theorem sumF_split (f : Nat → Int) : ∀ (k m p : Nat), sumF f k (m + p) = sumF f k m + sumF f (k + m) p
  | k, 0, p => by simp [sumF]
  | k, m + 1, p => by
    rw [show m + 1 + p = (m + p) + 1 by omega]
    show f k + sumF f (k + 1) (m + p) = f k + sumF f (k + 1) m + sumF f (k + (m + 1)) p
    rw [sumF_split f (k + 1) m p, show k + 1 + m = k + (m + 1) by omega]; omega

def dC (xs : List Int) (rate : Int) (k : Nat) : Int := lv xs k * disc rate k
def cC (xs : List Int) (rate : Int) (k : Nat) : Int := (lv xs k - lv xs (k + 1)) * disc rate (k + 1)
def nC (xs : List Int) (rate : Int) (k : Nat) : Int := sumF (dC xs rate) k (xs.length - 1 - k)
def mC (xs : List Int) (rate : Int) (k : Nat) : Int := sumF (cC xs rate) k (xs.length - 1 - k)
section
variable {first rate : Int} {xs : List Int} (T : TabOk first xs) (hr : 0 ≤ rate)
include T
theorem dC_zero (k : Nat) (h : xs.length - 1 ≤ k) : dC xs rate k = 0 := by unfold dC; rw [T.zero k (by omega), Int.zero_mul]
theorem cC_zero (k : Nat) (h : xs.length - 1 ≤ k) : cC xs rate k = 0 := by unfold cC; rw [T.zero k (by omega), T.zero (k + 1) (by omega)]; simp
theorem nC_any (k m : Nat) (h : xs.length - 1 ≤ k + m) : sumF (dC xs rate) k m = nC xs rate k := sumF_end (dC_zero T) k m h
theorem mC_any (k m : Nat) (h : xs.length - 1 ≤ k + m) : sumF (cC xs rate) k m = mC xs rate k := sumF_end (cC_zero T) k m h
theorem nC_step (k : Nat) : nC xs rate k = dC xs rate k + nC xs rate (k + 1) := by
  rw [← nC_any T k (xs.length - 1 - (k + 1) + 1) (by omega)]; rfl
theorem mC_step (k : Nat) : mC xs rate k = cC xs rate k + mC xs rate (k + 1) := by
  rw [← mC_any T k (xs.length - 1 - (k + 1) + 1) (by omega)]; rfl
theorem nC_part (k m : Nat) : nC xs rate k - nC xs rate (k + m) = sumF (dC xs rate) k m := by
  have := sumF_split (dC xs rate) k m (xs.length - 1 - (k + m))
  rw [nC_any T k (m + (xs.length - 1 - (k + m))) (by omega), nC_any T (k + m) (xs.length - 1 - (k + m)) (by omega)] at this
  omega
theorem mC_part (k m : Nat) : mC xs rate k - mC xs rate (k + m) = sumF (cC xs rate) k m := by
  have := sumF_split (cC xs rate) k m (xs.length - 1 - (k + m))
  rw [mC_any T k (m + (xs.length - 1 - (k + m))) (by omega), mC_any T (k + m) (xs.length - 1 - (k + m)) (by omega)] at this
  omega
theorem nC_zero (k : Nat) (h : xs.length - 1 ≤ k) : nC xs rate k = 0 := sumF_zero k _ fun j hj => dC_zero T j (by omega)
theorem mC_zero (k : Nat) (h : xs.length - 1 ≤ k) : mC xs rate k = 0 := sumF_zero k _ fun j hj => cC_zero T j (by omega)
include hr
theorem dC_bound (k : Nat) : 0 ≤ dC xs rate k ∧ dC xs rate k ≤ 1000000000000000 := by
  have h1 := disc_bound hr k
  unfold dC
  exact ⟨Int.mul_nonneg (T.nonneg k) h1.1, by have := Int.mul_le_mul (T.most k) h1.2 h1.1 (by omega); omega⟩
theorem cC_bound (k : Nat) : 0 ≤ cC xs rate k ∧ cC xs rate k ≤ dC xs rate k - dC xs rate (k + 1) := by
  have h1 := disc_bound hr (k + 1)
  have h2 := disc_anti hr k
  have h3 := T.anti k
  unfold cC dC
  refine ⟨Int.mul_nonneg (by omega) h1.1, ?_⟩
  rw [Int.sub_mul]
  have := Int.mul_le_mul_of_nonneg_left h2 (T.nonneg k)
  omega
theorem dC_anti (k : Nat) : dC xs rate (k + 1) ≤ dC xs rate k := by have := cC_bound T hr k; omega
theorem dC_anti_add (k : Nat) : ∀ m : Nat, dC xs rate (k + m) ≤ dC xs rate k
  | 0 => Int.le_refl _
  | m + 1 => by have := dC_anti T hr (k + m); have := dC_anti_add k m; rw [← Nat.add_assoc]; omega
theorem cSumF_bound : ∀ (k m : Nat), 0 ≤ sumF (cC xs rate) k m ∧ sumF (cC xs rate) k m ≤ dC xs rate k - dC xs rate (k + m)
  | k, 0 => by simp [sumF]
  | k, m + 1 => by
    have h1 := cSumF_bound (k + 1) m
    have h2 := cC_bound T hr k
    rw [show k + 1 + m = k + (m + 1) by omega] at h1
    show 0 ≤ cC xs rate k + sumF (cC xs rate) (k + 1) m ∧ cC xs rate k + sumF (cC xs rate) (k + 1) m ≤ _
    omega
theorem dSumF_bound : ∀ (k m : Nat), 0 ≤ sumF (dC xs rate) k m ∧ sumF (dC xs rate) k m ≤ (m : Int) * dC xs rate k
  | k, 0 => by simp [sumF]
  | k, m + 1 => by
    have h1 := dSumF_bound (k + 1) m
    have h2 := dC_bound T hr k
    have h3 : (m : Int) * dC xs rate (k + 1) ≤ (m : Int) * dC xs rate k := Int.mul_le_mul_of_nonneg_left (dC_anti T hr k) (by omega)
    show 0 ≤ dC xs rate k + sumF (dC xs rate) (k + 1) m ∧ dC xs rate k + sumF (dC xs rate) (k + 1) m ≤ _
    rw [Int.natCast_add, Int.add_mul]
    omega
theorem mC_bound (k : Nat) : 0 ≤ mC xs rate k ∧ mC xs rate k ≤ dC xs rate k := by
  have h1 := cSumF_bound T hr k (xs.length - 1 - k)
  have h2 := dC_bound T hr (k + (xs.length - 1 - k))
  unfold mC
  omega
theorem nC_bound (k : Nat) : 0 ≤ nC xs rate k ∧ nC xs rate k ≤ 120 * dC xs rate k := by
  have h1 := dSumF_bound T hr k (xs.length - 1 - k)
  have h2 := dC_bound T hr k
  have h3 : ((xs.length - 1 - k : Nat) : Int) * dC xs rate k ≤ 120 * dC xs rate k := Int.mul_le_mul_of_nonneg_right (by have := T.len1; omega) h2.1
  unfold nC
  omega
end

/-- the numerator of the value of an assurance, and the denominator of a level premium -/
def topF (xs : List Int) (rate kind : Int) (k m : Nat) : Int :=
  if kind = 0 then mC xs rate k else if kind = 1 then mC xs rate k - mC xs rate (k + m) else if kind = 2 then mC xs rate k - mC xs rate (k + m) + dC xs rate (k + m) else dC xs rate (k + m)
def baseF (xs : List Int) (rate kind : Int) (k m : Nat) : Int := if kind = 0 then nC xs rate k else nC xs rate k - nC xs rate (k + m)
section
variable {first rate : Int} {xs : List Int} (T : TabOk first xs) (hr : 0 ≤ rate)
include T hr
theorem topF_bound (kind : Int) (k m : Nat) : 0 ≤ topF xs rate kind k m ∧ topF xs rate kind k m ≤ dC xs rate k := by
  have h1 := mC_bound T hr k
  have h2 := cSumF_bound T hr k m
  have h3 := mC_part (rate := rate) T k m
  have h4 := dC_bound T hr (k + m)
  have h5 := dC_anti_add T hr k m
  unfold topF
  split
  · exact h1
  · split
    · omega
    · split
      · omega
      · omega
theorem baseF_bound (kind : Int) (k m : Nat) (hm : m ≤ 120) : 0 ≤ baseF xs rate kind k m ∧ baseF xs rate kind k m ≤ 120 * dC xs rate k := by
  have h1 := nC_bound T hr k
  have h2 := dSumF_bound T hr k m
  have h3 := nC_part (rate := rate) T k m
  have h4 := dC_bound T hr k
  have h5 : (m : Int) * dC xs rate k ≤ 120 * dC xs rate k := Int.mul_le_mul_of_nonneg_right (by omega) h4.1
  unfold baseF
  split
  · exact h1
  · omega
theorem baseF_pos (kind : Int) (k m : Nat) (h : kind = 0 ∨ 1 ≤ m) : dC xs rate k ≤ baseF xs rate kind k m := by
  have h1 := nC_step (rate := rate) T k
  have h2 := nC_bound T hr (k + 1)
  unfold baseF
  split
  · omega
  · have hm : 1 ≤ m := by rcases h with h | h; contradiction; exact h
    have h3 := nC_part (rate := rate) T k m
    obtain ⟨p, rfl⟩ : ∃ p, m = p + 1 := ⟨m - 1, by omega⟩
    have h4 := dSumF_bound T hr (k + 1) p
    have h5 : sumF (dC xs rate) k (p + 1) = dC xs rate k + sumF (dC xs rate) (k + 1) p := rfl
    omega
end
end Go.Proofs.YtkdfdbcpbgganaaGreatDoor
end

/- Plain facts on lists that the walks' relations want. No program in sight. -/
section
namespace Go.Proofs.YtkdfdbcpbgganaaGreatDoor

theorem all_succ {α : Type} {p : α → Bool} {xs : List α} {k : Nat} {x : α} (h : (xs.take k).all p = true) (hx : xs[k]? = some x) (hp : p x = true) : (xs.take (k + 1)).all p = true := by
  rw [List.take_add_one, hx]
  simp [h, hp]
theorem all_stop {α : Type} {p : α → Bool} {xs : List α} {k : Nat} {x : α} (hx : xs[k]? = some x) (hp : p x = false) : xs.all p = false := by
  rw [List.all_eq_false]
  exact ⟨x, List.mem_of_getElem? hx, by simp [hp]⟩
theorem all_end {α : Type} {p : α → Bool} {xs : List α} {n : Nat} (hl : xs.length = n) (h : (xs.take n).all p = true) : xs.all p = true := by
  rwa [List.take_of_length_le (by omega)] at h
theorem any_succ {α : Type} {p : α → Bool} {xs : List α} {k : Nat} {x : α} (h : (xs.take k).any p = false) (hx : xs[k]? = some x) (hp : p x = false) : (xs.take (k + 1)).any p = false := by
  rw [List.take_add_one, hx]
  simp [h, hp]
theorem any_stop {α : Type} {p : α → Bool} {xs : List α} {k : Nat} {x : α} (hx : xs[k]? = some x) (hp : p x = true) : xs.any p = true := by
  rw [List.any_eq_true]
  exact ⟨x, List.mem_of_getElem? hx, hp⟩
theorem any_end {α : Type} {p : α → Bool} {xs : List α} {n : Nat} (hl : xs.length = n) (h : (xs.take n).any p = false) : xs.any p = false := by
  rwa [List.take_of_length_le (by omega)] at h
theorem take_succ_snoc {α : Type} {xs : List α} {k : Nat} {x : α} (hx : xs[k]? = some x) : xs.take (k + 1) = xs.take k ++ [x] := by
  rw [List.take_add_one, hx]; rfl
theorem take_all {α : Type} {xs : List α} {n : Nat} (hl : xs.length = n) : xs.take n = xs := List.take_of_length_le (by omega)
theorem getD_of {α : Type} {xs : List α} {k : Nat} {x d : α} (hx : xs[k]? = some x) : xs.getD k d = x := by simp [hx]
theorem all_get {α : Type} {p : α → Bool} {xs : List α} {k : Nat} {x : α} (h : xs.all p = true) (hx : xs[k]? = some x) : p x = true := List.all_eq_true.1 h x (List.mem_of_getElem? hx)
end Go.Proofs.YtkdfdbcpbgganaaGreatDoor
end

/- Life tables: whether they are valid, their lives and ends: the program's and the reference's contracts. -/
section
namespace Go.Proofs.YtkdfdbcpbgganaaGreatDoor
open Go.RowKit Go.BigFrame

/-- part of a block as a struct's cells -/
theorem Blk.agg {w : World} {g : Nat} {t : TypeId} {cs : List Value} (h : Blk w g t cs.toArray) (o : Nat) (vs : List Value) (e : (cs.drop o).take vs.length = vs) :
    ∀ (j : Nat) (v : Value), vs[j]? = some v → w.cell? ((⟨g, o, none⟩ : Addr).add j) = some v := by
  intro j v hv
  rw [add_none, h.cell, List.getElem?_toArray]
  have hj := (List.getElem?_eq_some_iff.1 hv).1
  rw [← e, List.getElem?_take, if_pos hj, List.getElem?_drop] at hv
  exact hv
theorem Blk.agg_past {w : World} {g : Nat} {t : TypeId} {cs : List Value} (h : Blk w g t cs.toArray) (o : Nat) (vs : List Value) (e : (cs.drop o).take vs.length = vs) :
    ∀ w', (∃ y : Past w, w' = y.1) → ∀ (j : Nat) (v : Value), vs[j]? = some v → w'.cell? ((⟨g, o, none⟩ : Addr).add j) = some v := by
  rintro _ ⟨y, rfl⟩
  exact Blk.agg (h.below' y.2) o vs e
theorem intsLen_any (A : Option Addr) (n cap : Nat) (w : World) (_hn : n ≤ 1048576) :
    Calls Tryz.prog 51 #[.slice A n cap] w fun e w' => e = .returned (.int .i64 n) ∧ w = w' := by
  go_enter Tryz.func51, Tryz.ntmps51
  go_wp2
  go_ret
  exact ⟨rfl, rfl⟩

/-- a life table's lives lie in memory as told -/
structure LiesT (w : World) (A : Option Addr) (n : Nat) (xs : List Int) : Prop where
  len : xs.length = n
  small : n ≤ 1048576
  rd : Rd w w.heap.size A 1 (intRows xs)
  fits : ∀ x ∈ xs, In64 x
theorem LiesT.past {w w' : World} {A : Option Addr} {n : Nat} {xs : List Int} (h : LiesT w A n xs) (hb : Below w.heap.size w w') : LiesT w' A n xs := ⟨h.len, h.small, h.rd.past hb, h.fits⟩
theorem LiesT.at_ {w : World} {A : Option Addr} {n : Nat} {xs : List Int} (h : LiesT w A n xs) {k : Nat} (hk : k < n) : ∃ ad, A = some ad ∧ ad.block < w.heap.size ∧ w.cell? (ad.add k) = some (.int .i64 (lv xs k)) := h.rd.int_at (lv_some (by rw [h.len]; exact hk))
theorem lv_fits {xs : List Int} (h : ∀ x ∈ xs, In64 x) (k : Nat) : In64 (lv xs k) := by
  by_cases hk : k < xs.length
  · exact h _ (List.mem_of_getElem? (lv_some hk))
  · rw [lv_past (by omega)]; unfold In64; omega
theorem add_zero_at (a : Addr) : a.add 0 = a := by simp [Addr.add]
theorem all_range_stop {p : Nat → Bool} {m k : Nat} (hk : k < m) (h : p k = false) : (List.range m).all p = false := by
  rw [List.all_eq_false]; exact ⟨k, by simpa using hk, by simpa using h⟩

set_option maxHeartbeats 4000000 in
theorem impl_IsLifeTable_any (first : Int) (A : Option Addr) (n cap : Nat) (xs : List Int) (w : World) (hT : LiesT w A n xs) (hcap : n ≤ cap) (_hf : In64 first) :
    Calls Tryz.prog 67 #[.agg #[.int .i64 first, .slice A n cap]] w fun e w' => e = .returned (.bool (tableB first xs)) ∧ Below w.heap.size w w' := by
  have hbw : Below w.heap.size w (w.alloc (.cells #[.int .i64 first, .slice A n cap] 26)) := (Below.refl _ w).alloc (Nat.le_refl _) _
  have HT := Lib.hid (hT.past hbw); clear hT
  have hn := HT.out.small
  have HL := Lib.hid HT.out.len
  by_cases h1 : inR first 0 100 = true
  rotate_left
  · have Q := Lib.hid (show tableB first xs = false by simp [tableB, headB, h1])
    have h1' : inR first 0 100 = false := by simpa using h1
    clear h1
    go_enter Tryz.func67, Tryz.ntmps67
    go_wp2_with (first | (go_at_call 51; refine (intsLen_any A n cap _ hn).mono ?_; rintro e w' ⟨rfl, rfl⟩) | (go_at_call 50; refine (impl_inRange_any _ _ _ _).mono ?_; rintro e w' ⟨rfl, rfl⟩))
    go_ret
    exact ⟨by rw [Q.out]; rfl, hbw⟩
  by_cases h2 : inR n 2 120 = true
  rotate_left
  · have Q := Lib.hid (show tableB first xs = false by simp [tableB, headB, HL.out, h2])
    have h2' : inR n 2 120 = false := by simpa using h2
    clear h2
    go_enter Tryz.func67, Tryz.ntmps67
    go_wp2_with (first | (go_at_call 51; refine (intsLen_any A n cap _ hn).mono ?_; rintro e w' ⟨rfl, rfl⟩) | (go_at_call 50; refine (impl_inRange_any _ _ _ _).mono ?_; rintro e w' ⟨rfl, rfl⟩))
    go_ret
    exact ⟨by rw [Q.out]; rfl, hbw⟩
  obtain ⟨n1, n2⟩ := inR_true.1 h2
  obtain ⟨f1, f2⟩ := inR_true.1 h1
  obtain ⟨ad, rfl, had, hc0⟩ := HT.out.at_ (k := 0) (by omega)
  rw [add_zero_at] at hc0
  have hadb : ad.block < w.heap.size + 1 := by simpa using had
  by_cases h3 : lv xs 0 ≤ 1000000
  rotate_left
  · have Q := Lib.hid (show tableB first xs = false by simp [tableB, headB, h3])
    go_enter Tryz.func67, Tryz.ntmps67
    go_wp2_with (first | (go_at_call 51; refine (intsLen_any _ n cap _ hn).mono ?_; rintro e w' ⟨rfl, rfl⟩) | (go_at_call 50; refine (impl_inRange_any _ _ _ _).mono ?_; rintro e w' ⟨rfl, rfl⟩))
    go_ret
    exact ⟨by rw [Q.out]; rfl, hbw⟩
  obtain ⟨m, hm⟩ : ∃ m : Nat, n = m + 1 := ⟨n - 1, by omega⟩
  have hmi : (n : Int) - 1 = (m : Int) := by omega
  have HM := Lib.hid hm; clear hm
  have hmn : m < n := by have := HM.out; omega
  obtain ⟨ad', had', had2, hcm⟩ := HT.out.at_ (k := m) hmn
  injection had' with had'; subst had'
  by_cases h4 : lv xs m = 0
  rotate_left
  · have Q := Lib.hid (show tableB first xs = false by simp [tableB, headB, HL.out, show n - 1 = m by have := HM.out; omega, h4])
    go_enter Tryz.func67, Tryz.ntmps67
    go_wp2_with (first | (go_at_call 51; refine (intsLen_any _ n cap _ hn).mono ?_; rintro e w' ⟨rfl, rfl⟩) | (go_at_call 50; refine (impl_inRange_any _ _ _ _).mono ?_; rintro e w' ⟨rfl, rfl⟩))
    go_ret
    exact ⟨by rw [Q.out]; rfl, hbw⟩
  have H4 := Lib.hid h4
  rw [h4] at hcm
  clear h4
  by_cases h5 : first + (n : Int) - 1 ≤ 150
  rotate_left
  · have Q := Lib.hid (show tableB first xs = false by simp [tableB, headB, HL.out, h5])
    go_enter Tryz.func67, Tryz.ntmps67
    go_wp2_with (first | (go_at_call 51; refine (intsLen_any _ n cap _ hn).mono ?_; rintro e w' ⟨rfl, rfl⟩) | (go_at_call 50; refine (impl_inRange_any _ _ _ _).mono ?_; rintro e w' ⟨rfl, rfl⟩))
    go_ret
    exact ⟨by rw [Q.out]; rfl, hbw⟩
  have Q := Lib.hid (show tableB first xs = (List.range m).all (rowB xs) by
    have e : headB first xs = true := by simp [headB, HL.out, h1, h2, h3, h5, show n - 1 = m by have := HM.out; omega, H4.out]
    rw [tableB, e, HL.out, show n - 1 = m by have := HM.out; omega, Bool.true_and])
  go_enter Tryz.func67, Tryz.ntmps67
  go_wp2_with (first | (go_at_call 51; refine (intsLen_any _ n cap _ hn).mono ?_; rintro e w' ⟨rfl, rfl⟩) | (go_at_call 50; refine (impl_inRange_any _ _ _ _).mono ?_; rintro e w' ⟨rfl, rfl⟩))
  go_loop [48] (fun i => ∃ k : Nat, k ≤ m ∧ i = .int .i64 k ∧ (List.range k).all (rowB xs) = true) (fun i => m - (intOf i).toNat)
  case atStart => exact ⟨0, by omega, rfl, rfl⟩
  case round =>
    obtain ⟨k, hk, rfl, hall⟩ := hrel
    have HA := Lib.hid hall; clear hall
    by_cases hlt : k < m
    rotate_left
    · have hkm : k = m := by omega
      subst hkm
      go_wp2
      go_ret
      exact ⟨by rw [Q.out, HA.out]; rfl, hbw⟩
    obtain ⟨ad1, had1, _, hck⟩ := HT.out.at_ (k := k) (by omega)
    injection had1 with had1; subst had1
    have hlk := lv_fits HT.out.fits k
    obtain ⟨g1, g2⟩ := hlk
    have hkm2 : (k : Int) < (m : Int) := by omega
    by_cases hp : 1 ≤ lv xs k
    rotate_left
    · have hr : rowB xs k = false := by simp [rowB, hp]
      have HR := Lib.hid hr; clear hr
      go_wp2
      go_ret
      exact ⟨by rw [Q.out, all_range_stop hlt HR.out]; rfl, hbw⟩
    cases k with
    | zero =>
      have hr : rowB xs 0 = true := by simp [rowB, hp]
      have HR := Lib.hid hr; clear hr
      rw [add_zero_at] at hck
      go_wp2
      go_round
      case rel => exact ⟨1, by omega, by go_num, by rw [List.range_succ, List.all_append, HA.out]; simp [HR.out]⟩
      case measure => simp [intOf]; omega
    | succ k =>
      obtain ⟨ad2, had2', _, hcp⟩ := HT.out.at_ (k := k) (by omega)
      injection had2' with had2'; subst had2'
      have ek : (((k + 1 : Nat) : Int) - 1) = (k : Int) := by omega
      rw [show ad.add (k + 1) = ⟨ad.block, ad.off + (k + 1), none⟩ from by simp [Addr.add]] at hck
      by_cases hq : lv xs (k + 1) ≤ lv xs k
      · have hr : rowB xs (k + 1) = true := by simp [rowB, hp, hq]
        have HR := Lib.hid hr; clear hr
        go_wp2
        go_round
        case rel => exact ⟨k + 2, by omega, by go_num, by rw [List.range_succ, List.all_append, HA.out]; simp [HR.out]⟩
        case measure => simp [intOf]; omega
      · have hr : rowB xs (k + 1) = false := by simp [rowB, hq]
        have HR := Lib.hid hr; clear hr
        go_wp2
        go_ret
        exact ⟨by rw [Q.out, all_range_stop hlt HR.out]; rfl, hbw⟩
end Go.Proofs.YtkdfdbcpbgganaaGreatDoor
end

/- Lives at an age, deaths, a table's end: the program's and the reference's contracts. -/
section
namespace Go.Proofs.YtkdfdbcpbgganaaGreatDoor
open Go.RowKit Go.BigFrame

theorem Tab.size : (Tryz.prog.info? 26).map (·.size) = some 2 := by kernel_rfl
theorem LiesT.at_past {w : World} {A : Option Addr} {n : Nat} {xs : List Int} (h : LiesT w A n xs) (x : Past w) : LiesT x.1 A n xs := h.past x.2

theorem impl_LifeTable_end_any (first : Int) (A : Option Addr) (n cap : Nat) (w : World) (hn : n ≤ 1048576) (hf : 0 ≤ first ∧ first ≤ 100) :
    Calls Tryz.prog 132 #[.agg #[.int .i64 first, .slice A n cap]] w fun e w' => e = .returned (.int .i64 (first + (n : Int) - 1)) ∧ Below w.heap.size w w' := by
  have hbw : Below w.heap.size w (w.alloc (.cells #[.int .i64 first, .slice A n cap] 26)) := (Below.refl _ w).alloc (Nat.le_refl _) _
  have HB := Lib.hid (Blk.new w 26 #[.int .i64 first, .slice A n cap])
  obtain ⟨f1, f2⟩ := hf
  have b0 : (w.alloc (.cells #[.int .i64 first, .slice A n cap] 26)).cell? ⟨w.heap.size, 0, none⟩ = some (.int .i64 first) := HB.out.cell 0
  have b1 : (w.alloc (.cells #[.int .i64 first, .slice A n cap] 26)).cell? ⟨w.heap.size, 1, none⟩ = some (.slice A n cap) := HB.out.cell 1
  have d0 := fun y : Past (w.alloc (.cells #[.int .i64 first, .slice A n cap] 26)) => Past.cell b0 y
  have d1 := fun y : Past (w.alloc (.cells #[.int .i64 first, .slice A n cap] 26)) => Past.cell b1 y
  go_enter Tryz.func132, Tryz.ntmps132
  go_wp2
  refine wp_region_past (by kernel_rfl) (by kernel_rfl) ?_
  repeat (go_big_quiet_step ((go_at_call 51; exact past_same (intsLen_any A n cap _ hn))))
  refine wpQuiet_nil ?_
  rintro _ ⟨y, rfl⟩
  go_wp2
  go_ret
  exact ⟨rfl, hbw.trans (y.2.mono (by simp))⟩

theorem spec_l03End_any (first : Int) (A : Option Addr) (n cap : Nat) (w : World) (hn : n ≤ 1048576) (hf : 0 ≤ first ∧ first ≤ 100) :
    Calls Tryz.prog 66 #[.agg #[.int .i64 first, .slice A n cap]] w fun e w' => e = .returned (.int .i64 (first + (n : Int) - 1)) ∧ Below w.heap.size w w' := by
  have hbw : Below w.heap.size w (w.alloc (.cells #[.int .i64 first, .slice A n cap] 26)) := (Below.refl _ w).alloc (Nat.le_refl _) _
  obtain ⟨f1, f2⟩ := hf
  go_enter Tryz.func66, Tryz.ntmps66
  go_wp2
  go_ret
  exact ⟨rfl, hbw⟩

set_option maxHeartbeats 1000000 in
theorem impl_LifeTable_lives_any (first : Int) (A : Option Addr) (n cap : Nat) (xs : List Int) (age : Int) (w : World) (hT : LiesT w A n xs) (T : TabOk first xs) (ha : first ≤ age ∧ age ≤ 100000) :
    Calls Tryz.prog 105 #[.agg #[.int .i64 first, .slice A n cap], .int .i64 age] w fun e w' => e = .returned (.int .i64 (lv xs (age - first).toNat)) ∧ Below w.heap.size w w' := by
  have hbw : Below w.heap.size w (w.alloc (.cells #[.int .i64 first, .slice A n cap] 26)) := (Below.refl _ w).alloc (Nat.le_refl _) _
  have HB := Lib.hid (Blk.new w 26 #[.int .i64 first, .slice A n cap])
  have HT := Lib.hid (hT.past hbw); clear hT
  have hn := HT.out.small
  have HL := Lib.hid HT.out.len
  obtain ⟨a1, a2⟩ := ha
  obtain ⟨k, hk⟩ := Int.eq_ofNat_of_zero_le (show 0 ≤ age - first by omega)
  have e : (age - first).toNat = k := by omega
  rw [e]
  have T1 := T.first0; have T2 := T.first1
  have HTab := Lib.hid T; clear T
  by_cases h : first + (n : Int) - 1 < age
  · have Q := Lib.hid (show lv xs k = 0 from HTab.out.zero k (by have := HL.out; omega))
    clear e
    go_enter Tryz.func105, Tryz.ntmps105
    go_wp2_with (first | (go_at_call 132; refine (impl_LifeTable_end_any first A n cap _ hn ⟨T1, T2⟩).mono ?_; rintro e w1 ⟨rfl, hb1⟩))
    go_ret
    exact ⟨by rw [Q.out]; rfl, hbw.trans (hb1.mono (by simp))⟩
  · obtain ⟨ad, rfl, had, hck⟩ := HT.out.at_ (k := k) (by omega)
    clear e
    go_enter Tryz.func105, Tryz.ntmps105
    go_wp2_with fail
    refine (impl_LifeTable_end_any first (some ad) n cap _ hn ⟨T1, T2⟩).mono ?_
    rintro e w1 ⟨rfl, hb1⟩
    have b0 : w1.cell? ⟨w.heap.size, 0, none⟩ = some (.int .i64 first) := (HB.out.below' hb1).cell 0
    have b1 : w1.cell? ⟨w.heap.size, 1, none⟩ = some (.slice (some ad) n cap) := (HB.out.below' hb1).cell 1
    have hck1 := (hb1.cell (p := ad.add k) (by rw [block_of_add]; exact had)).trans hck
    have hkn : (k : Int) < (n : Int) := by omega
    go_wp2
    go_ret
    exact ⟨rfl, hbw.trans (hb1.mono (by simp))⟩

set_option maxHeartbeats 1000000 in
theorem spec_l03Lives_any (first : Int) (A : Option Addr) (n cap : Nat) (xs : List Int) (age : Int) (w : World) (hT : LiesT w A n xs) (hf : 0 ≤ first ∧ first ≤ 100) (ha : first ≤ age ∧ age ≤ 100000) :
    Calls Tryz.prog 76 #[.agg #[.int .i64 first, .slice A n cap], .int .i64 age] w fun e w' => e = .returned (.int .i64 (lv xs (age - first).toNat)) ∧ Below w.heap.size w w' := by
  have hbw : Below w.heap.size w (w.alloc (.cells #[.int .i64 first, .slice A n cap] 26)) := (Below.refl _ w).alloc (Nat.le_refl _) _
  have HT := Lib.hid (hT.past hbw); clear hT
  have hn := HT.out.small
  have HL := Lib.hid HT.out.len
  obtain ⟨a1, a2⟩ := ha
  obtain ⟨f1, f2⟩ := hf
  obtain ⟨k, hk⟩ := Int.eq_ofNat_of_zero_le (show 0 ≤ age - first by omega)
  have e : (age - first).toNat = k := by omega
  rw [e]
  clear e
  by_cases h : n ≤ k
  · have Q := Lib.hid (show lv xs k = 0 from lv_past (by have := HL.out; omega))
    have h' : (n : Int) ≤ (k : Int) := by omega
    go_enter Tryz.func76, Tryz.ntmps76
    go_wp2
    go_ret
    exact ⟨by rw [Q.out]; rfl, hbw⟩
  · obtain ⟨ad, rfl, had, hck⟩ := HT.out.at_ (k := k) (by omega)
    have hkn : (k : Int) < (n : Int) := by omega
    go_enter Tryz.func76, Tryz.ntmps76
    go_wp2
    go_ret
    exact ⟨rfl, hbw⟩

theorem impl_LifeTable_deaths_any (first : Int) (A : Option Addr) (n cap : Nat) (xs : List Int) (age : Int) (w : World) (hT : LiesT w A n xs) (T : TabOk first xs) (ha : first ≤ age ∧ age ≤ 10000) :
    Calls Tryz.prog 106 #[.agg #[.int .i64 first, .slice A n cap], .int .i64 age] w fun e w' => e = .returned (.int .i64 (lv xs (age - first).toNat - lv xs ((age - first).toNat + 1))) ∧ Below w.heap.size w w' := by
  have hbw : Below w.heap.size w (w.alloc (.cells #[.int .i64 first, .slice A n cap] 26)) := (Below.refl _ w).alloc (Nat.le_refl _) _
  have HB := Lib.hid (Blk.new w 26 #[.int .i64 first, .slice A n cap])
  have HT := Lib.hid (hT.past hbw); clear hT
  obtain ⟨a1, a2⟩ := ha
  have T1 := T.first0; have T2 := T.first1
  have HTab := Lib.hid T; clear T
  have l1 := HTab.out.nonneg (age - first).toNat
  have l2 := HTab.out.most (age - first).toNat
  have l3 := HTab.out.nonneg ((age - first).toNat + 1)
  have l4 := HTab.out.most ((age - first).toNat + 1)
  have hE := (show (age + 1 - first).toNat = (age - first).toNat + 1 by omega)
  have hcs := Lib.hid (Blk.agg_past (cs := [.int .i64 first, .slice A n cap]) HB.out 0 [.int .i64 first, .slice A n cap] rfl)
  go_enter Tryz.func106, Tryz.ntmps106
  go_wp2
  refine wp_region_past (by kernel_rfl) (by kernel_rfl) ?_
  repeat (first | (go_big_quiet_want; (first | (refine quiet_load_agg 26 _ rfl ⟨w.heap.size, 0, none⟩ rfl [.int .i64 first, .slice A n cap] hcs.out _ Tryz.underlying26 rfl Tab.size ?_)); go_simp; go_big_quiet_on) | go_big_quiet_step ((go_at_call 105; exact past_call (impl_LifeTable_lives_any first A n cap xs _ _ (HT.out.at_past _) HTab.out ⟨by omega, by omega⟩))))
  refine wpQuiet_nil ?_
  rintro _ ⟨y, rfl⟩
  go_wp2
  go_ret
  exact ⟨rfl, hbw.trans (y.2.mono (by simp))⟩

set_option maxHeartbeats 1000000 in
theorem spec_l05D_any (first : Int) (A : Option Addr) (n cap : Nat) (xs : List Int) (rate age : Int) (w : World) (hT : LiesT w A n xs) (T : TabOk first xs) (hr : 0 ≤ rate ∧ rate ≤ 200) (ha : first ≤ age ∧ age ≤ 1000) :
    Calls Tryz.prog 39 #[.agg #[.int .i64 first, .slice A n cap], .int .i64 rate, .int .i64 age] w fun e w' => e = .returned (.int .i64 (dC xs rate (age - first).toNat)) ∧ Below w.heap.size w w' := by
  have hbw : Below w.heap.size w (w.alloc (.cells #[.int .i64 first, .slice A n cap] 26)) := (Below.refl _ w).alloc (Nat.le_refl _) _
  have HB := Lib.hid (Blk.new w 26 #[.int .i64 first, .slice A n cap])
  have HT := Lib.hid (hT.past hbw); clear hT
  have HL := Lib.hid HT.out.len
  obtain ⟨a1, a2⟩ := ha
  obtain ⟨r1, r2⟩ := hr
  obtain ⟨k, hk⟩ := Int.eq_ofNat_of_zero_le (show 0 ≤ age - first by omega)
  have HE := Lib.hid (show (age - first).toNat = k by omega)
  rw [HE.out]
  have T1 := T.first0; have T2 := T.first1
  have HTab := Lib.hid T; clear T
  by_cases h1 : k ≤ 120
  rotate_left
  · have Q := Lib.hid (show dC xs rate k = 0 from dC_zero HTab.out k (by have := HTab.out.len1; omega))
    go_enter Tryz.func39, Tryz.ntmps39
    go_wp2
    go_ret
    exact ⟨by rw [Q.out]; rfl, hbw⟩
  have l1 := HTab.out.nonneg k
  have l2 := HTab.out.most k
  by_cases h2 : lv xs k = 0
  · have Q := Lib.hid (show dC xs rate k = 0 by unfold dC; rw [h2, Int.zero_mul])
    have H2 := Lib.hid h2
    clear l1 l2 h2
    go_enter Tryz.func39, Tryz.ntmps39
    go_wp2_with (first | (go_at_call 76; refine (spec_l03Lives_any first A n cap xs age _ HT.out ⟨by omega, by omega⟩ ⟨by omega, by omega⟩).mono ?_; rw [HE.out, H2.out]; rintro e w1 ⟨rfl, hb1⟩))
    go_ret
    exact ⟨by rw [Q.out]; rfl, hbw.trans (hb1.mono (by simp))⟩
  have h2' : ¬ lv xs k = 0 := h2
  have h2b : (lv xs k == 0) = false := by simp [h2]
  have h1b : decide (120 < (k : Int)) = false := by simp; omega
  obtain ⟨e1, e2⟩ := disc_bound r1 k
  have m1 : 0 ≤ lv xs k * disc rate k := Int.mul_nonneg l1 e1
  have m2 : lv xs k * disc rate k ≤ 1000000 * 1000000000 := Int.mul_le_mul l2 e2 e1 (by omega)
  go_enter Tryz.func39, Tryz.ntmps39
  go_wp2_with fail
  refine (spec_l03Lives_any first A n cap xs age _ HT.out ⟨by omega, by omega⟩ ⟨by omega, by omega⟩).mono ?_
  rw [HE.out]
  rintro e w1 ⟨rfl, hb1⟩
  have HB1 := Lib.hid (HB.out.below' hb1)
  have HT1 := Lib.hid (HT.out.past hb1)
  have hc1 := Lib.hid (Blk.agg (cs := [.int .i64 first, .slice A n cap]) HB1.out 0 [.int .i64 first, .slice A n cap] rfl)
  go_wp2_with (refine wpList_load_agg rfl 26 _ rfl ⟨w.heap.size, 0, none⟩ rfl [.int .i64 first, .slice A n cap] hc1.out _ Tryz.underlying26 rfl Tab.size ?_)
  refine (spec_l03Lives_any first A n cap xs age _ HT1.out ⟨by omega, by omega⟩ ⟨by omega, by omega⟩).mono ?_
  rw [HE.out]
  rintro e w2 ⟨rfl, hb2⟩
  go_wp2_with fail
  refine (spec_l04Discount_nat rate k _ ⟨r1, r2⟩ (by omega)).mono ?_
  rintro e w3 ⟨rfl, rfl⟩
  go_wp2
  go_ret
  exact ⟨rfl, hbw.trans ((hb1.mono (by simp)).trans (hb2.mono (by have := hb1.size; simp at this; omega)))⟩

set_option maxHeartbeats 2000000 in
theorem spec_l05C_any (first : Int) (A : Option Addr) (n cap : Nat) (xs : List Int) (rate age : Int) (w : World) (hT : LiesT w A n xs) (T : TabOk first xs) (hr : 0 ≤ rate ∧ rate ≤ 200) (ha : first ≤ age ∧ age ≤ 1000) :
    Calls Tryz.prog 170 #[.agg #[.int .i64 first, .slice A n cap], .int .i64 rate, .int .i64 age] w fun e w' => e = .returned (.int .i64 (cC xs rate (age - first).toNat)) ∧ Below w.heap.size w w' := by
  have hbw : Below w.heap.size w (w.alloc (.cells #[.int .i64 first, .slice A n cap] 26)) := (Below.refl _ w).alloc (Nat.le_refl _) _
  have HB := Lib.hid (Blk.new w 26 #[.int .i64 first, .slice A n cap])
  have HT := Lib.hid (hT.past hbw); clear hT
  have HL := Lib.hid HT.out.len
  obtain ⟨a1, a2⟩ := ha
  obtain ⟨r1, r2⟩ := hr
  obtain ⟨k, hk⟩ := Int.eq_ofNat_of_zero_le (show 0 ≤ age - first by omega)
  have HE := Lib.hid (show (age - first).toNat = k by omega)
  have hE1 : (age + 1 - first).toNat = k + 1 := by omega
  rw [HE.out]
  have hE0 := HE.out
  have T1 := T.first0; have T2 := T.first1
  have HTab := Lib.hid T; clear T
  have l1 := HTab.out.nonneg k
  have l2 := HTab.out.most k
  have l3 := HTab.out.nonneg (k + 1)
  have l4 := HTab.out.anti k
  have hcs := Lib.hid (Blk.agg_past (cs := [.int .i64 first, .slice A n cap]) HB.out 0 [.int .i64 first, .slice A n cap] rfl)
  have hk1 : (k : Int) + 1 = ((k + 1 : Nat) : Int) := by omega
  have HK1 := Lib.hid hk1; clear hk1
  by_cases h1 : k + 1 ≤ 120
  rotate_left
  · have Q := Lib.hid (show cC xs rate k = 0 from cC_zero HTab.out k (by have := HTab.out.len1; omega))
    have h1i : ¬ (k : Int) + 1 ≤ 120 := by omega
    go_enter Tryz.func170, Tryz.ntmps170
    go_wp2
    refine wp_region_past (by kernel_rfl) (by kernel_rfl) ?_
    repeat (first | (go_big_quiet_want; (first | (refine quiet_load_agg 26 _ rfl ⟨w.heap.size, 0, none⟩ rfl [.int .i64 first, .slice A n cap] hcs.out _ Tryz.underlying26 rfl Tab.size ?_)); go_simp; go_big_quiet_on) | go_big_quiet_step ((go_at_call 76; exact past_call (spec_l03Lives_any first A n cap xs _ _ (HT.out.at_past _) ⟨by omega, by omega⟩ ⟨by omega, by omega⟩))))
    refine wpQuiet_nil ?_
    rintro _ ⟨y, rfl⟩
    go_wp2
    go_ret
    exact ⟨by rw [Q.out]; rfl, hbw.trans (y.2.mono (by simp))⟩
  have h1i : (k : Int) + 1 ≤ 120 := by omega
  obtain ⟨dd, hdd⟩ : ∃ dd, lv xs k - lv xs (k + 1) = dd := ⟨_, rfl⟩
  have QC := Lib.hid (show cC xs rate k = dd * disc rate (k + 1) by unfold cC; rw [hdd])
  have g1 : 0 ≤ dd := by omega
  have g2 : dd ≤ 1000000 := by omega
  by_cases h2 : dd = 0
  · have Q := Lib.hid (show cC xs rate k = 0 by rw [QC.out, h2, Int.zero_mul])
    rw [h2] at hdd
    clear g1 g2 h2 QC
    go_enter Tryz.func170, Tryz.ntmps170
    go_wp2
    refine wp_region_past (by kernel_rfl) (by kernel_rfl) ?_
    repeat (first | (go_big_quiet_want; (first | (refine quiet_load_agg 26 _ rfl ⟨w.heap.size, 0, none⟩ rfl [.int .i64 first, .slice A n cap] hcs.out _ Tryz.underlying26 rfl Tab.size ?_)); go_simp; go_big_quiet_on) | go_big_quiet_step ((go_at_call 76; exact past_call (spec_l03Lives_any first A n cap xs _ _ (HT.out.at_past _) ⟨by omega, by omega⟩ ⟨by omega, by omega⟩))))
    refine wpQuiet_nil ?_
    rintro _ ⟨y, rfl⟩
    go_wp2
    go_ret
    exact ⟨by rw [Q.out]; rfl, hbw.trans (y.2.mono (by simp))⟩
  have h2b : (dd == 0) = false := by simp [h2]
  have h1b : decide (120 < (k : Int) + 1) = false := by simp; omega
  have h1c : decide (120 < k + 1) = false := by simp; omega
  obtain ⟨e1, e2⟩ := disc_bound r1 (k + 1)
  have m1 : 0 ≤ dd * disc rate (k + 1) := Int.mul_nonneg g1 e1
  have m2 : dd * disc rate (k + 1) ≤ 1000000 * 1000000000 := Int.mul_le_mul g2 e2 e1 (by omega)
  go_enter Tryz.func170, Tryz.ntmps170
  go_wp2
  refine wp_region_past (by kernel_rfl) (by kernel_rfl) ?_
  repeat (first | (go_big_quiet_want; (first | (refine quiet_load_agg 26 _ rfl ⟨w.heap.size, 0, none⟩ rfl [.int .i64 first, .slice A n cap] hcs.out _ Tryz.underlying26 rfl Tab.size ?_)); go_simp; go_big_quiet_on) | go_big_quiet_step ((go_at_call 76; exact past_call (spec_l03Lives_any first A n cap xs _ _ (HT.out.at_past _) ⟨by omega, by omega⟩ ⟨by omega, by omega⟩))))
  refine wpQuiet_nil ?_
  rintro _ ⟨y, rfl⟩
  go_wp2_with fail
  refine (spec_l04Discount_any rate _ _ ⟨r1, r2⟩ ⟨by omega, by omega⟩).mono ?_
  rw [show ((k : Int) + 1).toNat = k + 1 by omega]
  rintro e w3 ⟨rfl, rfl⟩
  go_wp2
  go_ret
  exact ⟨by rw [QC.out]; rfl, hbw.trans (y.2.mono (by simp))⟩
end Go.Proofs.YtkdfdbcpbgganaaGreatDoor
end

/- Life tables: whether they are valid: the reference's contract. -/
section
namespace Go.Proofs.YtkdfdbcpbgganaaGreatDoor
open Go.RowKit Go.BigFrame
theorem table_no {first : Int} {xs : List Int} (h : TabOk first xs → False) : tableB first xs = false := by
  cases e : tableB first xs
  · rfl
  · exact (h (table_ok e)).elim
theorem table_yes {first : Int} {xs : List Int} {n : Nat} (hl : xs.length = n) (h1 : inR first 0 100 = true) (h2 : 2 ≤ n ∧ n ≤ 120) (h3 : 1 ≤ lv xs 0 ∧ lv xs 0 ≤ 1000000) (h4 : lv xs (n - 1) = 0) (h5 : first + (n : Int) - 1 ≤ 150)
    (h6 : ∀ i : Nat, 1 ≤ i → i < n → lv xs i ≤ lv xs (i - 1) ∧ (i + 1 < n → 1 ≤ lv xs i)) : tableB first xs = true := by
  have e : headB first xs = true := by
    have : inR (n : Int) 2 120 = true := inR_true.2 (by omega)
    simp [headB, hl, h1, this, h3, h4, h5]
  rw [tableB, e, Bool.true_and, List.all_eq_true]
  intro i hi
  rw [hl] at hi
  have hi' : i < n - 1 := by simpa using hi
  by_cases h0 : i = 0
  · subst h0; simp [rowB, h3]
  · have := h6 i (by omega) (by omega)
    simp only [rowB, Bool.and_eq_true, Bool.or_eq_true, decide_eq_true_eq]
    exact ⟨this.2 (by omega), .inr this.1⟩

set_option maxHeartbeats 4000000 in
theorem spec_IsLifeTable_any (first : Int) (A : Option Addr) (n cap : Nat) (xs : List Int) (w : World) (hT : LiesT w A n xs) (_hcap : n ≤ cap) (_hf : In64 first) :
    Calls Tryz.prog 116 #[.agg #[.int .i64 first, .slice A n cap]] w fun e w' => e = .returned (.bool (tableB first xs)) ∧ Below w.heap.size w w' := by
  have hbw : Below w.heap.size w (w.alloc (.cells #[.int .i64 first, .slice A n cap] 26)) := (Below.refl _ w).alloc (Nat.le_refl _) _
  have HT := Lib.hid (hT.past hbw); clear hT
  have HB := Lib.hid (Blk.new w 26 #[.int .i64 first, .slice A n cap])
  have hn := HT.out.small
  have HL := Lib.hid HT.out.len
  by_cases h2 : 2 ≤ n
  rotate_left
  · have Q := Lib.hid (show tableB first xs = false from table_no fun T => by have := T.len0; have := HL.out; omega)
    go_enter Tryz.func116, Tryz.ntmps116
    go_wp2_with (first | (go_at_call 72; refine (spec_l01In_any _ _ _ _).mono ?_; rintro e w' ⟨rfl, rfl⟩))
    go_ret
    exact ⟨by rw [Q.out]; rfl, hbw⟩
  by_cases h2' : n ≤ 120
  rotate_left
  · have Q := Lib.hid (show tableB first xs = false from table_no fun T => by have := T.len1; have := HL.out; omega)
    go_enter Tryz.func116, Tryz.ntmps116
    go_wp2_with (first | (go_at_call 72; refine (spec_l01In_any _ _ _ _).mono ?_; rintro e w' ⟨rfl, rfl⟩))
    go_ret
    exact ⟨by rw [Q.out]; rfl, hbw⟩
  by_cases h1 : inR first 0 100 = true
  rotate_left
  · have h1' : inR first 0 100 = false := by simpa using h1
    have Q := Lib.hid (show tableB first xs = false from table_no fun T => by have := inR_mk (hi := 100) ⟨T.first0, T.first1⟩; rw [h1'] at this; cases this)
    clear h1
    go_enter Tryz.func116, Tryz.ntmps116
    go_wp2_with (first | (go_at_call 72; refine (spec_l01In_any _ _ _ _).mono ?_; rintro e w' ⟨rfl, rfl⟩))
    go_ret
    exact ⟨by rw [Q.out]; rfl, hbw⟩
  obtain ⟨f1, f2⟩ := inR_true.1 h1
  obtain ⟨ad, rfl, had, hc0⟩ := HT.out.at_ (k := 0) (by omega)
  rw [add_zero_at] at hc0
  have hadb : ad.block < w.heap.size + 1 := by simpa using had
  by_cases h3 : inR (lv xs 0) 1 1000000 = true
  rotate_left
  · have h3' : inR (lv xs 0) 1 1000000 = false := by simpa using h3
    have Q := Lib.hid (show tableB first xs = false from table_no fun T => by have := inR_mk (hi := 1000000) ⟨T.pos 0 (by have := HL.out; omega), T.most 0⟩; rw [h3'] at this; cases this)
    clear h3
    go_enter Tryz.func116, Tryz.ntmps116
    go_wp2_with (first | (go_at_call 72; refine (spec_l01In_any _ _ _ _).mono ?_; rintro e w' ⟨rfl, rfl⟩))
    go_ret
    exact ⟨by rw [Q.out]; rfl, hbw⟩
  obtain ⟨m, hm⟩ : ∃ m : Nat, n = m + 1 := ⟨n - 1, by omega⟩
  have hmi : (n : Int) - 1 = (m : Int) := by omega
  have HM := Lib.hid hm; clear hm
  have hmn : m < n := by have := HM.out; omega
  obtain ⟨ad', had', had2, hcm⟩ := HT.out.at_ (k := m) hmn
  injection had' with had'; subst had'
  by_cases h4 : lv xs m = 0
  rotate_left
  · have Q := Lib.hid (show tableB first xs = false from table_no fun T => h4 (T.zero m (by have := HL.out; have := HM.out; omega)))
    go_enter Tryz.func116, Tryz.ntmps116
    go_wp2_with (first | (go_at_call 72; refine (spec_l01In_any _ _ _ _).mono ?_; rintro e w' ⟨rfl, rfl⟩))
    go_ret
    exact ⟨by rw [Q.out]; rfl, hbw⟩
  have H4 := Lib.hid h4
  rw [h4] at hcm
  clear h4
  by_cases h5 : first + (n : Int) - 1 ≤ 150
  rotate_left
  · have Q := Lib.hid (show tableB first xs = false from table_no fun T => h5 (by have := T.top; rw [HL.out] at this; exact this))
    go_enter Tryz.func116, Tryz.ntmps116
    go_wp2_with (first | (go_at_call 72; refine (spec_l01In_any _ _ _ _).mono ?_; rintro e w' ⟨rfl, rfl⟩))
    go_ret
    exact ⟨by rw [Q.out]; rfl, hbw⟩
  have QY := Lib.hid (fun h6 => table_yes (first := first) HL.out h1 ⟨h2, h2'⟩ (inR_true.1 h3) (by rw [show n - 1 = m by have := HM.out; omega]; exact H4.out) h5 h6)
  go_enter Tryz.func116, Tryz.ntmps116
  go_wp2_with (first | (go_at_call 72; refine (spec_l01In_any _ _ _ _).mono ?_; rintro e w' ⟨rfl, rfl⟩))
  go_loopw [4] (fun i wr => ∃ k : Nat, 1 ≤ k ∧ k ≤ n ∧ i = .int .i64 k ∧ Hid (∀ i : Nat, 1 ≤ i → i < k → lv xs i ≤ lv xs (i - 1) ∧ (i + 1 < n → 1 ≤ lv xs i)) ∧ Below (w.heap.size + 1) (w.alloc (.cells #[.int .i64 first, .slice (some ad) n cap] 26)) wr) (fun i _ => n - (intOf i).toNat)
  case atStart => exact ⟨1, by omega, by omega, rfl, Lib.hid (fun i h h' => by omega), Below.refl _ _⟩
  case round =>
    obtain ⟨k, hk1, hk, rfl, HA, hb⟩ := hrel
    have hbb : Below w.heap.size w wr := hbw.trans (hb.mono (by omega))
    have b0 : wr.cell? ⟨w.heap.size, 0, none⟩ = some (.int .i64 first) := (HB.out.below hb (by omega)).cell 0
    have b1 : wr.cell? ⟨w.heap.size, 1, none⟩ = some (.slice (some ad) n cap) := (HB.out.below hb (by omega)).cell 1
    by_cases hlt : k < n
    rotate_left
    · have hkn : k = n := by omega
      subst hkn
      have Q := Lib.hid (QY.out HA.out)
      go_wp2
      go_ret
      exact ⟨by rw [Q.out]; rfl, hbb⟩
    obtain ⟨p, hp⟩ : ∃ p, k = p + 1 := ⟨k - 1, by omega⟩
    subst hp
    obtain ⟨ad1, had1, _, hck⟩ := HT.out.at_ (k := p + 1) hlt
    injection had1 with had1; subst had1
    obtain ⟨ad2, had2', _, hcp⟩ := HT.out.at_ (k := p) (by omega)
    injection had2' with had2'; subst had2'
    have hck2 := (hb.cell (p := ad.add (p + 1)) (by rw [block_of_add]; omega)).trans hck
    have hcp2 := (hb.cell (p := ad.add p) (by rw [block_of_add]; omega)).trans hcp
    rw [show ad.add (p + 1) = ⟨ad.block, ad.off + (p + 1), none⟩ from by simp [Addr.add]] at hck2
    clear hck hcp
    have d0 := fun y : Past wr => Past.cell b1 y
    have d1 := fun y : Past wr => Past.cell hck2 y
    have d2 := fun y : Past wr => Past.cell hcp2 y
    have hpi : ((p : Int) + 1 - 1) = (p : Int) := by omega
    by_cases ha : lv xs (p + 1) ≤ lv xs p
    rotate_left
    · have Q := Lib.hid (show tableB first xs = false from table_no fun T => ha (T.anti p))
      have hd : decide (lv xs p < lv xs (p + 1)) = true := by simp; omega
      go_wp2
      refine wp_region_past (by kernel_rfl) (by kernel_rfl) ?_
      repeat (go_big_quiet_step (fail))
      refine wpQuiet_nil ?_
      rintro _ ⟨y, rfl⟩
      go_wp2
      go_ret
      exact ⟨by rw [Q.out]; rfl, hbb.trans (y.2.mono hbb.size)⟩
    have hd : decide (lv xs p < lv xs (p + 1)) = false := by simp; omega
    by_cases hb1 : p + 1 < m
    · have he : decide (p + 1 < m) = true := by simp; omega
      have he2 : decide ((p : Int) + 1 < (m : Int)) = true := by simp; omega
      by_cases hc : 1 ≤ lv xs (p + 1)
      · have hf2 : decide (lv xs (p + 1) < 1) = false := by simp; omega
        go_wp2
        refine wp_region_past (by kernel_rfl) (by kernel_rfl) ?_
        repeat (go_big_quiet_step (fail))
        refine wpQuiet_nil ?_
        rintro _ ⟨y, rfl⟩
        go_wp2
        go_roundw
        case rel => exact ⟨p + 2, by omega, by omega, by go_num, Lib.hid (fun i h h' => by
          by_cases e : i = p + 1
          · subst e; exact ⟨ha, fun _ => hc⟩
          · exact HA.out i h (by omega)), hb.trans (y.2.mono (by have := hb.size; simp at this; omega))⟩
        case measure => simp [intOf]; omega
      · have Q := Lib.hid (show tableB first xs = false from table_no fun T => hc (T.pos (p + 1) (by have := HL.out; have := HM.out; omega)))
        have hf2 : decide (lv xs (p + 1) < 1) = true := by simp; omega
        go_wp2
        refine wp_region_past (by kernel_rfl) (by kernel_rfl) ?_
        repeat (go_big_quiet_step (fail))
        refine wpQuiet_nil ?_
        rintro _ ⟨y, rfl⟩
        go_wp2
        go_ret
        exact ⟨by rw [Q.out]; rfl, hbb.trans (y.2.mono hbb.size)⟩
    · have he : decide (p + 1 < m) = false := by simp; omega
      have he2 : decide ((p : Int) + 1 < (m : Int)) = false := by simp; omega
      go_wp2
      refine wp_region_past (by kernel_rfl) (by kernel_rfl) ?_
      repeat (go_big_quiet_step (fail))
      refine wpQuiet_nil ?_
      rintro _ ⟨y, rfl⟩
      go_wp2
      go_roundw
      case rel => exact ⟨p + 2, by omega, by omega, by go_num, Lib.hid (fun i h h' => by
          by_cases e : i = p + 1
          · subst e; exact ⟨ha, fun h9 => by have := HM.out; omega⟩
          · exact HA.out i h (by omega)), hb.trans (y.2.mono (by have := hb.size; simp at this; omega))⟩
      case measure => simp [intOf]; omega
end Go.Proofs.YtkdfdbcpbgganaaGreatDoor
end

/- Lists of numbers within bounds: the program's and the reference's contracts. -/
section
namespace Go.Proofs.YtkdfdbcpbgganaaGreatDoor
open Go.RowKit Go.BigFrame

theorem allIn1_any (x lo hi : Int) (p q : Addr) (w : World) (hp : w.cell? p = some (.int .i64 lo)) (hq : w.cell? q = some (.int .i64 hi)) :
    Calls Tryz.prog 84 #[.int .i64 x, .pointer (some p), .pointer (some q)] w fun e w' => e = .returned (.bool (!inR x lo hi)) ∧ w = w' := by
  go_enter Tryz.func84, Tryz.ntmps84
  go_wp2_with (first | (go_at_call 50; refine (impl_inRange_any _ _ _ _).mono ?_; rintro e w' ⟨rfl, rfl⟩))
  go_ret
  exact ⟨rfl, rfl⟩

set_option maxHeartbeats 1000000 in
theorem indexIn_any (A : Option Addr) (n cap : Nat) (xs : List Int) (lo hi : Int) (p q : Addr) (w : World) (hl : xs.length = n) (hn : n ≤ 1048576) (hX : Rd w w.heap.size A 1 (intRows xs)) (hp : w.cell? p = some (.int .i64 lo)) (hq : w.cell? q = some (.int .i64 hi)) :
    Calls Tryz.prog 115 #[.slice A n cap, .func (.func 84) #[] #[.pointer (some p), .pointer (some q)]] w fun e w' => ∃ i : Int, e = .returned (.int .i64 i) ∧ (xs.any (fun x => !inR x lo hi) = decide (0 ≤ i)) ∧ w = w' := by
  have HX := Lib.hid hX; clear hX
  have HL := Lib.hid hl; clear hl
  go_enter Tryz.func115, Tryz.ntmps115
  go_wp2
  go_loop [8] (fun i => ∃ k : Nat, k ≤ n ∧ i = .int .i64 k ∧ (xs.take k).any (fun x => !inR x lo hi) = false) (fun i => n - (intOf i).toNat)
  case atStart => exact ⟨0, by omega, rfl, rfl⟩
  case round =>
    obtain ⟨k, hk, rfl, hany⟩ := hrel
    have HA := Lib.hid hany; clear hany
    by_cases hlt : k < n
    · obtain ⟨x, hx⟩ := get_of_lt (xs := xs) (k := k) (by rw [HL.out]; exact hlt)
      obtain ⟨ad, rfl, had, hc⟩ := HX.out.int_at hx
      have Hx := Lib.hid hx; clear hx
      go_wp2_with fail
      refine (allIn1_any x lo hi p q _ hp hq).mono ?_
      rintro e w1 ⟨rfl, rfl⟩
      by_cases hb : inR x lo hi = true
      · go_wp2
        go_round
        case rel => exact ⟨k + 1, by omega, by go_num, any_succ HA.out Hx.out (by simp [hb])⟩
        case measure => simp [intOf]; omega
      · have hb' : inR x lo hi = false := by simpa using hb
        clear hb
        go_wp2
        go_ret
        exact ⟨_, rfl, by rw [any_stop Hx.out (by simp [hb'])]; simp, rfl⟩
    · have hkn : k = n := by omega
      subst hkn
      go_wp2
      go_ret
      exact ⟨_, rfl, by rw [any_end HL.out HA.out]; simp, rfl⟩

theorem containsIn_any (A : Option Addr) (n cap : Nat) (xs : List Int) (lo hi : Int) (p q : Addr) (w : World) (hl : xs.length = n) (hn : n ≤ 1048576) (hX : Rd w w.heap.size A 1 (intRows xs)) (hp : w.cell? p = some (.int .i64 lo)) (hq : w.cell? q = some (.int .i64 hi)) :
    Calls Tryz.prog 83 #[.slice A n cap, .func (.func 84) #[] #[.pointer (some p), .pointer (some q)]] w fun e w' => e = .returned (.bool (xs.any fun x => !inR x lo hi)) ∧ w = w' := by
  have HX := Lib.hid hX; clear hX
  have HL := Lib.hid hl; clear hl
  go_enter Tryz.func83, Tryz.ntmps83
  go_wp2_with fail
  refine (indexIn_any A n cap xs lo hi p q w HL.out hn HX.out hp hq).mono ?_
  rintro e w1 ⟨i, rfl, hi, rfl⟩
  have Hi := Lib.hid hi; clear hi
  go_wp2
  go_ret
  exact ⟨by rw [Hi.out]; rfl, rfl⟩

def allR (xs : List Int) (lo hi : Int) : Bool := xs.all fun x => inR x lo hi
theorem allR_any (xs : List Int) (lo hi : Int) : allR xs lo hi = !xs.any fun x => !inR x lo hi := by
  unfold allR
  induction xs with
  | nil => rfl
  | cons x r ih => simp [ih]

theorem impl_allIn_any (A : Option Addr) (n cap : Nat) (xs : List Int) (lo hi : Int) (w : World) (hl : xs.length = n) (hn : n ≤ 1048576) (hX : Rd w w.heap.size A 1 (intRows xs)) :
    Calls Tryz.prog 52 #[.slice A n cap, .int .i64 lo, .int .i64 hi] w fun e w' => e = .returned (.bool (allR xs lo hi)) ∧ Below w.heap.size w w' := by
  have hb : Below w.heap.size w ((w.alloc (.cells #[.int .i64 lo] 2)).alloc (.cells #[.int .i64 hi] 2)) := ((Below.refl _ w).alloc (Nat.le_refl _) _).alloc (by simp) _
  have HX := Lib.hid (hX.past hb); clear hX
  have HL := Lib.hid hl; clear hl
  rw [allR_any]
  go_enter Tryz.func52, Tryz.ntmps52
  go_wp2_with fail
  refine (containsIn_any A n cap xs lo hi ⟨w.heap.size, 0, none⟩ ⟨w.heap.size + 1, 0, none⟩ _ HL.out hn HX.out (by go_simp) (by go_simp)).mono ?_
  rintro e w1 ⟨rfl, rfl⟩
  go_wp2
  go_ret
  exact ⟨rfl, hb⟩

set_option maxHeartbeats 1000000 in
theorem spec_l01Within_any (A : Option Addr) (n cap : Nat) (xs : List Int) (m lo hi : Int) (w : World) (hl : xs.length = n) (hn : n ≤ 1048576) (hX : Rd w w.heap.size A 1 (intRows xs)) :
    Calls Tryz.prog 63 #[.slice A n cap, .int .i64 m, .int .i64 lo, .int .i64 hi] w fun e w' => e = .returned (.bool (allR xs lo hi && decide ((n : Int) ≤ m))) ∧ w = w' := by
  have HX := Lib.hid hX; clear hX
  have HL := Lib.hid hl; clear hl
  go_enter Tryz.func63, Tryz.ntmps63
  go_wp2
  go_loop [9] (fun i => ∃ k : Nat, k ≤ n ∧ i = .int .i64 k ∧ (xs.take k).all (fun x => inR x lo hi) = true) (fun i => n - (intOf i).toNat)
  case atStart => exact ⟨0, by omega, rfl, rfl⟩
  case round =>
    obtain ⟨k, hk, rfl, hany⟩ := hrel
    have HA := Lib.hid hany; clear hany
    by_cases hlt : k < n
    · obtain ⟨x, hx⟩ := get_of_lt (xs := xs) (k := k) (by rw [HL.out]; exact hlt)
      obtain ⟨ad, rfl, had, hc⟩ := HX.out.int_at hx
      have Hx := Lib.hid hx; clear hx
      by_cases hb : inR x lo hi = true
      · go_wp2_with (first | (go_at_call 72; refine (spec_l01In_any _ _ _ _).mono ?_; rintro e w' ⟨rfl, rfl⟩))
        go_round
        case rel => exact ⟨k + 1, by omega, by go_num, all_succ HA.out Hx.out hb⟩
        case measure => simp [intOf]; omega
      · have hb' : inR x lo hi = false := by simpa using hb
        clear hb
        go_wp2_with (first | (go_at_call 72; refine (spec_l01In_any _ _ _ _).mono ?_; rintro e w' ⟨rfl, rfl⟩))
        go_ret
        exact ⟨by rw [allR, all_stop Hx.out hb']; rfl, rfl⟩
    · have hkn : k = n := by omega
      subst hkn
      go_wp2
      go_ret
      exact ⟨by rw [allR, all_end HL.out HA.out]; rfl, rfl⟩
end Go.Proofs.YtkdfdbcpbgganaaGreatDoor
end
