/- Parts of a proof, one after another: DrawA, Rate, LifeP, StPolicy, StHolding. No condition. -/
import Derived.Test.YtbjdbpdgacfcpaaGreatK0
import Derived.Test.YtbjdbpdgacfcpaaGreatK1
/- Draws of rates and lists of rates: whatever is drawn, it lies in a range, and nothing but the source turns. -/
section
namespace Go.Proofs.YtbjdbpdgacfcpaaGreat
open Go.RowKit Go.BigFrame

theorem spec_l01Pick_new (K : Code) (hK : K.Ok) (g : Nat) (w0 : World) (cs : List Value) (m : Nat) (w : World) (hT : Nx K g w0 w) (hm : cs.length = m) (hm0 : 0 < m) (hm1 : m ≤ 100) (hi : cs.all isI64 = true) :
    Calls Tryz.prog 80 #[.pointer (some ⟨g, 0, none⟩), .slice (some ⟨w.heap.size, 0, none⟩) m m] (w.alloc (.cells cs.toArray 2)) fun e w' => ∃ x : Int, e = .returned (.int .i64 x) ∧ OneOf cs x ∧ Nx K g w0 w' :=
  spec_l01Pick_any K hK g w0 w.heap.size cs m _ (hT.alloc _) (Blk.new w _ _) hT.src.lt hm hm0 hm1 hi

theorem spec_l04DrawRate_any (K : Code) (hK : K.Ok) (g : Nat) (w0 : World) (w : World) (hT : Nx K g w0 w) :
    Calls Tryz.prog 147 #[.pointer (some ⟨g, 0, none⟩)] w fun e w' => ∃ x : Int, e = .returned (.int .i64 x) ∧ (-1 ≤ x ∧ x ≤ 201) ∧ Nx K g w0 w' := by
  go_enter Tryz.func147, Tryz.ntmps147
  go_wp2_with (first | (go_at_call 102; refine (spec_l01Next_any K hK g _ _ _ (Nx.refl (Nx.src (by first | exact hT | exact hT.alloc _ | exact (hT.alloc _).alloc _ | exact hT.drew)))).mono ?_; rintro e w3 ⟨x, rfl, ⟨hx0, hx1⟩, hN⟩; have hT := Nx.trans (by first | exact hT | exact hT.alloc _ | exact (hT.alloc _).alloc _ | exact hT.drew) hN) | (go_at_call 80; refine (spec_l01Pick_new K hK g _ _ _ _ (by first | exact hT | exact hT.alloc _ | exact (hT.alloc _).alloc _ | exact hT.drew) (by rfl) (by decide) (by decide) (by rfl)).mono ?_; rintro e w3 ⟨x, rfl, hx, hT⟩; simp only [OneOf, Value.int.injEq, true_and, or_false] at hx))
  all_goals (go_ret; exact ⟨_, rfl, by omega, hT⟩)

/-- an own list of integers in a range -/
def IntsBy (B : Nat) (w : World) (A : Option Addr) (n c : Nat) (lo hi : Int) : Prop := ∃ xs : List Int, Res B w 2 1 A n c (intRows xs) ∧ ∀ x ∈ xs, lo ≤ x ∧ x ≤ hi
theorem ints_snoc {xs : List Int} {v lo hi : Int} (h : ∀ x ∈ xs, lo ≤ x ∧ x ≤ hi) (hv : lo ≤ v ∧ v ≤ hi) : ∀ x ∈ xs ++ [v], lo ≤ x ∧ x ≤ hi := by
  intro x hx
  rcases List.mem_append.1 hx with h' | h'
  · exact h x h'
  · simp only [List.mem_singleton] at h'; rw [h']; exact hv

set_option maxHeartbeats 2000000 in
theorem spec_l03DrawRates_any (K : Code) (hK : K.Ok) (g : Nat) (w0 : World) (w : World) (hT : Nx K g w0 w) :
    Calls Tryz.prog 146 #[.pointer (some ⟨g, 0, none⟩)] w fun e w' => ∃ (A' : Option Addr) (n' c' : Nat), e = .returned (.slice A' n' c') ∧ IntsBy w.heap.size w' A' n' c' 0 1000 ∧ (1 ≤ n' ∧ n' ≤ 25) ∧ Nx K g w0 w' := by
  obtain ⟨i0, hi0, hz0, hz1, hz2⟩ := info_parts Int64.info
  have HI := Lib.hid (And.intro hi0 (And.intro hz0 (And.intro hz1 hz2))); clear hi0 hz0 hz1 hz2
  have HT0 := Lib.hid hT
  have hO := Nx.refl hT.src
  have hgw := hT.src.lt
  have hgB : g < w.heap.size := hgw
  clear hT
  have hT := hO
  have HR0 := Lib.hid (Res.zero_at (w := w) (B := w.heap.size) (t := 2) (sz := 1) (g := w.heap.size) (by simp) (by simp))
  go_enter Tryz.func146, Tryz.ntmps146
  go_wp2_with fail
  have hO := hO.alloc (.cells #[] 2)
  have hT := Nx.refl hO.src
  have HR := HR0
  go_wp2_with (first | (go_at_call 102; refine (spec_l01Next_any K hK g _ _ _ (Nx.refl (Nx.src (by first | exact hT | exact hT.alloc _ | exact (hT.alloc _).alloc _ | exact hT.drew)))).mono ?_; rintro e w3 ⟨x, rfl, ⟨hx0, hx1⟩, hN⟩; have hT := Nx.trans (by first | exact hT | exact hT.alloc _ | exact (hT.alloc _).alloc _ | exact hT.drew) hN) | (go_at_call 80; refine (spec_l01Pick_new K hK g _ _ _ _ (by first | exact hT | exact hT.alloc _ | exact (hT.alloc _).alloc _ | exact hT.drew) (by rfl) (by decide) (by decide) (by rfl)).mono ?_; rintro e w3 ⟨x, rfl, hx, hT⟩; simp only [OneOf, Value.int.injEq, true_and, or_false] at hx))
  have HR := Lib.hid (HR.out.nx hT hgB)
  have hO := hO.trans hT
  clear hT hN
  go_loopw [3, 4, 5] (fun o r i wr => ∃ (k : Nat) (A' : Option Addr) (c' : Nat) (xs : List Int) (m ra : Int), i = .int .i64 m ∧ r = .int .i64 ra ∧ o = .slice A' k c' ∧ (0 ≤ m ∧ 1 ≤ (k : Int) + m ∧ (k : Int) + m ≤ 25) ∧ (0 ≤ ra ∧ ra ≤ 100 * (k : Int) + 100) ∧ Hid (Res w.heap.size wr 2 1 A' k c' (intRows xs)) ∧ Hid (∀ x ∈ xs, 0 ≤ x ∧ x ≤ 1000) ∧ Nx K g w wr) (fun _ _ i _ => (intOf i).toNat)
  case atStart => exact ⟨0, _, _, [], _, _, rfl, rfl, rfl, by omega, by omega, HR, Lib.hid (by simp), hO⟩
  case round =>
    obtain ⟨k, A', c', xs, m, ra, rfl, rfl, rfl, ⟨m0, m1, m2⟩, ⟨r0, r1⟩, HR, HX, hO⟩ := hrel
    have hT := Nx.refl hO.src
    by_cases hm : 0 < m
    · go_wp2_with (first | (go_at_call 102; refine (spec_l01Next_any K hK g _ _ _ (Nx.refl (Nx.src (by first | exact hT | exact hT.alloc _ | exact (hT.alloc _).alloc _ | exact hT.drew)))).mono ?_; rintro e w3 ⟨x, rfl, ⟨hx0, hx1⟩, hN⟩; have hT := Nx.trans (by first | exact hT | exact hT.alloc _ | exact (hT.alloc _).alloc _ | exact hT.drew) hN) | (at_builtin; refine wpList_append_row_at _ rfl _ _ _ rfl (w.heap.size) 2 i0 _ 1 8 Tryz.underlying24 HI.out.1 HI.out.2.1 HI.out.2.2.1 HI.out.2.2.2 rfl (by decide) (by decide) _ _ _ _ rfl (HR.out.nx hT hgB) [.int .i64  _] _ rfl rfl (by simp [Value.oneCell']) (by omega) (Nat.le_trans hO.size hT.size) ?_; intro A2 c2 w5 hR5 hb5 _ _; have hO := (hO.trans hT).kept hgw (Nat.le_refl _) hb5; have hT := Nx.refl hO.src; rw [← intRows_snoc] at hR5; have HR := Lib.hid hR5; clear hR5 hb5))
      all_goals go_round
      case rel => exact ⟨k + 1, _, _, _, _, _, by go_num, by go_num, rfl, by omega, by omega, Lib.hid (HR.out.nx hT hgB), Lib.hid (ints_snoc HX.out (by omega)), hO.trans hT⟩
      case measure => simp [intOf]; omega
    · go_wp2
      go_ret
      exact ⟨A', k, c', rfl, ⟨xs, HR.out, HX.out⟩, by omega, HT0.out.trans hO⟩
end Go.Proofs.YtbjdbpdgacfcpaaGreat
end

/- The discounts of a rate: the program's list and the reference's single one. -/
section
namespace Go.Proofs.YtbjdbpdgacfcpaaGreat
open Go.RowKit Go.BigFrame

def disc (rate : Int) : Nat → Int
  | 0 => 1000000000
  | k + 1 => disc rate k * 1000 / (1000 + rate)
theorem disc_bound {rate : Int} (hr : 0 ≤ rate) : ∀ k : Nat, 0 ≤ disc rate k ∧ disc rate k ≤ 1000000000
  | 0 => by simp [disc]
  | k + 1 => by
    obtain ⟨h1, h2⟩ := disc_bound hr k
    simp only [disc]
    refine ⟨Int.ediv_nonneg (by omega) (by omega), ?_⟩
    have h3 : disc rate k * 1000 / (1000 + rate) ≤ disc rate k * (1000 + rate) / (1000 + rate) := Int.ediv_le_ediv (by omega) (Int.mul_le_mul_of_nonneg_left (by omega) h1)
    rw [Int.mul_ediv_cancel _ (by omega)] at h3
    omega
def discL (rate : Int) (n : Nat) : List Int := (List.range n).map (disc rate)
theorem discL_succ (rate : Int) (k : Nat) : discL rate (k + 1) = discL rate k ++ [disc rate k] := by simp [discL, List.range_succ]
theorem discL_get (rate : Int) {n k : Nat} (h : k < n) : (discL rate n)[k]? = some (disc rate k) := by simp [discL, h]
theorem discL_length (rate : Int) (n : Nat) : (discL rate n).length = n := by simp [discL]

set_option maxHeartbeats 1000000 in
theorem impl_discounts_any (rate : Int) (w : World) (hr : 0 ≤ rate ∧ rate ≤ 200) :
    Calls Tryz.prog 173 #[.int .i64 rate] w fun e w' => ∃ A' c', e = .returned (.slice A' 121 c') ∧ Res w.heap.size w' 2 1 A' 121 c' (intRows (discL rate 121)) ∧ Below w.heap.size w w' := by
  obtain ⟨i0, hi0, hz0, hz1, hz2⟩ := info_parts Int64.info
  have HI := Lib.hid (And.intro hi0 (And.intro hz0 (And.intro hz1 hz2))); clear hi0 hz0 hz1 hz2
  obtain ⟨r1, r2⟩ := hr
  have HR0 := Lib.hid (Res.zero w w.heap.size 2 1 (Nat.le_refl _))
  have HD := Lib.hid (disc_bound r1)
  have hz : ¬ 1000 + rate = 0 := by omega
  go_enter Tryz.func173, Tryz.ntmps173
  go_wp2
  go_loopw [3, 4, 6] (fun o d i wr => ∃ (k : Nat) (A' : Option Addr) (c' : Nat), k ≤ 121 ∧ i = .int .i64 k ∧ d = .int .i64 (disc rate k) ∧ o = .slice A' k c' ∧ Res w.heap.size wr 2 1 A' k c' (intRows (discL rate k)) ∧ Below w.heap.size w wr) (fun _ _ i _ => 121 - (intOf i).toNat)
  case atStart => exact ⟨0, _, _, by omega, rfl, rfl, rfl, HR0.out, (Below.refl _ _).alloc (Nat.le_refl _) _⟩
  case round =>
    obtain ⟨k, A', c', hk, rfl, rfl, rfl, hR, hb⟩ := hrel
    have HR := Lib.hid hR; clear hR
    by_cases hlt : k < 121
    · have hd := HD.out k
      obtain ⟨d1, d2⟩ := hd
      have hlt' : (k : Int) < 121 := by omega
      have hsz : w.heap.size ≤ wr.heap.size := hb.size
      go_wp2_with (at_builtin; refine wpList_append_row wr rfl (.tmp 8) (.tmp 10) 24 rfl w.heap.size 2 i0 _ 1 8 Tryz.underlying24 HI.out.1 HI.out.2.1 HI.out.2.2.1 HI.out.2.2.2 rfl (by decide) (by decide) A' k c' _ rfl HR.out [.int .i64 (disc rate k)] _ rfl rfl (by simp [Value.oneCell']) (by omega) hsz ?_)
      intro B2 c2 w3 hR3 hb5
      have HR3 := Lib.hid hR3; clear hR3
      have hb6 : Below w.heap.size w w3 := hb.trans hb5
      go_wp2
      go_roundw
      case rel => exact ⟨k + 1, B2, c2, by omega, by go_num, rfl, rfl, by rw [discL_succ, intRows_snoc]; exact HR3.out, hb6⟩
      case measure => simp [intOf]; omega
    · have hkn : k = 121 := by omega
      subst hkn
      go_wp2
      go_ret
      exact ⟨A', c', rfl, HR.out, hb⟩

theorem spec_l04Discount_nat (rate : Int) (n : Nat) (w : World) (hr : 0 ≤ rate ∧ rate ≤ 200) (hn : n ≤ 1000) :
    Calls Tryz.prog 190 #[.int .i64 rate, .int .i64 n] w fun e w' => e = .returned (.int .i64 (disc rate n)) ∧ w = w' := by
  obtain ⟨r1, r2⟩ := hr
  have HD := Lib.hid (disc_bound r1)
  have hz : ¬ 1000 + rate = 0 := by omega
  go_enter Tryz.func190, Tryz.ntmps190
  go_wp2
  go_loop [5, 6] (fun d i => ∃ k : Nat, k ≤ n ∧ i = .int .i64 k ∧ d = .int .i64 (disc rate k)) (fun _ i => n - (intOf i).toNat)
  case atStart => exact ⟨0, by omega, rfl, rfl⟩
  case round =>
    obtain ⟨k, hk, rfl, rfl⟩ := hrel
    by_cases hlt : k < n
    · have hd := HD.out k
      obtain ⟨d1, d2⟩ := hd
      go_wp2
      go_round
      case rel => exact ⟨k + 1, by omega, by go_num, rfl⟩
      case measure => simp [intOf]; omega
    · have hkn : k = n := by omega
      subst hkn
      go_wp2
      go_ret
      exact ⟨rfl, rfl⟩
theorem spec_l04Discount_any (rate y : Int) (w : World) (hr : 0 ≤ rate ∧ rate ≤ 200) (hy : 0 ≤ y ∧ y ≤ 1000) :
    Calls Tryz.prog 190 #[.int .i64 rate, .int .i64 y] w fun e w' => e = .returned (.int .i64 (disc rate y.toNat)) ∧ w = w' := by
  obtain ⟨n, rfl⟩ := Int.eq_ofNat_of_zero_le hy.1
  rw [Int.toNat_natCast]
  exact spec_l04Discount_nat rate n w hr (by omega)
end Go.Proofs.YtbjdbpdgacfcpaaGreat
end

/- Life tables and their columns: plain functions and their laws. No program. -/
section
namespace Go.Proofs.YtbjdbpdgacfcpaaGreat
open Go.RowKit Go.BigFrame

/-- the lives at an index, 0 behind the table's end -/
def lv (xs : List Int) (k : Nat) : Int := xs.getD k 0
theorem lv_get {xs : List Int} {k : Nat} {x : Int} (h : xs[k]? = some x) : lv xs k = x := by simp [lv, h]
theorem lv_some {xs : List Int} {k : Nat} (h : k < xs.length) : xs[k]? = some (lv xs k) := by simp [lv, h]
theorem lv_past {xs : List Int} {k : Nat} (h : xs.length ≤ k) : lv xs k = 0 := by
  unfold lv; rw [List.getD_eq_getElem?_getD, List.getElem?_eq_none h]; rfl
/-- a row of the table that is as it must be -/
def rowB (xs : List Int) (i : Nat) : Bool := decide (1 ≤ lv xs i) && (decide (i = 0) || decide (lv xs i ≤ lv xs (i - 1)))
def headB (first : Int) (xs : List Int) : Bool := inR first 0 100 && (inR xs.length 2 120 && (decide (lv xs 0 ≤ 1000000) && (decide (lv xs (xs.length - 1) = 0) && decide (first + (xs.length : Int) - 1 ≤ 150))))
def tableB (first : Int) (xs : List Int) : Bool := headB first xs && (List.range (xs.length - 1)).all (rowB xs)
structure TabOk (first : Int) (xs : List Int) : Prop where
  first0 : 0 ≤ first
  first1 : first ≤ 100
  len0 : 2 ≤ xs.length
  len1 : xs.length ≤ 120
  top : first + (xs.length : Int) - 1 ≤ 150
  pos : ∀ k : Nat, k + 1 < xs.length → 1 ≤ lv xs k
  anti : ∀ k : Nat, lv xs (k + 1) ≤ lv xs k
  nonneg : ∀ k : Nat, 0 ≤ lv xs k
  most : ∀ k : Nat, lv xs k ≤ 1000000
  zero : ∀ k : Nat, xs.length ≤ k + 1 → lv xs k = 0
theorem table_ok {first : Int} {xs : List Int} (h : tableB first xs = true) : TabOk first xs := by
  simp only [tableB, headB, Bool.and_eq_true, inR_true, decide_eq_true_eq, List.all_eq_true, List.mem_range, rowB, Bool.or_eq_true] at h
  obtain ⟨⟨⟨f0, f1⟩, ⟨l0, l1⟩, hm, hz, ht⟩, hr⟩ := h
  have pos : ∀ k : Nat, k + 1 < xs.length → 1 ≤ lv xs k := fun k hk => (hr k (by omega)).1
  have zero : ∀ k : Nat, xs.length ≤ k + 1 → lv xs k = 0 := fun k hk => by
    by_cases e : k + 1 = xs.length
    · rw [show k = xs.length - 1 by omega]; exact hz
    · exact lv_past (by omega)
  have nonneg : ∀ k : Nat, 0 ≤ lv xs k := fun k => by
    by_cases hk : k + 1 < xs.length
    · have := pos k hk; omega
    · rw [zero k (by omega)]; omega
  have anti : ∀ k : Nat, lv xs (k + 1) ≤ lv xs k := fun k => by
    by_cases hk : k + 2 < xs.length
    · rcases (hr (k + 1) (by omega)).2 with h | h
      · omega
      · exact h
    · rw [zero (k + 1) (by omega)]; exact nonneg k
  have most : ∀ k : Nat, lv xs k ≤ 1000000 := fun k => by
    induction k with
    | zero => exact hm
    | succ k ih => have := anti k; omega
  exact ⟨f0, f1, by omega, by omega, ht, pos, anti, nonneg, most, zero⟩

theorem disc_anti {rate : Int} (hr : 0 ≤ rate) (k : Nat) : disc rate (k + 1) ≤ disc rate k := by
  have h1 := (disc_bound hr k).1
  have h3 : disc rate k * 1000 / (1000 + rate) ≤ disc rate k * (1000 + rate) / (1000 + rate) := Int.ediv_le_ediv (by omega) (Int.mul_le_mul_of_nonneg_left (by omega) h1)
  rw [Int.mul_ediv_cancel _ (by omega)] at h3
  exact h3

/-- f k + f (k + 1) + .. : m of them -/
def sumF (f : Nat → Int) (k : Nat) : Nat → Int
  | 0 => 0
  | m + 1 => f k + sumF f (k + 1) m
theorem sumF_snoc (f : Nat → Int) : ∀ (k m : Nat), sumF f k (m + 1) = sumF f k m + f (k + m)
  | k, 0 => by simp [sumF]
  | k, m + 1 => by
    have := sumF_snoc f (k + 1) m
    show f k + sumF f (k + 1) (m + 1) = f k + sumF f (k + 1) m + f (k + (m + 1))
    rw [this, show k + 1 + m = k + (m + 1) by omega]; omega
theorem sumF_zero {f : Nat → Int} : ∀ (k m : Nat), (∀ j, k ≤ j → f j = 0) → sumF f k m = 0
  | _, 0, _ => rfl
  | k, m + 1, h => by
    show f k + sumF f (k + 1) m = 0
    rw [h k (Nat.le_refl _), sumF_zero (k + 1) m fun j hj => h j (by omega)]; rfl
/-- the sum to the table's end, and any longer one -/
theorem sumF_end {f : Nat → Int} {e : Nat} (hz : ∀ j, e ≤ j → f j = 0) : ∀ (k m : Nat), e ≤ k + m → sumF f k m = sumF f k (e - k)
  | k, 0, h => by rw [show e - k = 0 by omega]
  | k, m + 1, h => by
    by_cases hk : e ≤ k
    · rw [sumF_zero k _ fun j hj => hz j (by omega), show e - k = 0 by omega]; rfl
    · rw [show e - k = (e - (k + 1)) + 1 by omega]
      show f k + sumF f (k + 1) m = f k + sumF f (k + 1) (e - (k + 1))
      rw [sumF_end hz (k + 1) m (by omega)]
theorem sumF_split (f : Nat → Int) : ∀ (k m p : Nat), sumF f k (m + p) = sumF f k m + sumF f (k + m) p
  | k, 0, p => by simp [sumF]
  | k, m + 1, p => by
    rw [show m + 1 + p = (m + p) + 1 by omega]
    show f k + sumF f (k + 1) (m + p) = f k + sumF f (k + 1) m + sumF f (k + (m + 1)) p
    rw [sumF_split f (k + 1) m p, show k + 1 + m = k + (m + 1) by omega]; omega

def dC (xs : List Int) (rate : Int) (k : Nat) : Int := lv xs k * disc rate k
def cC (xs : List Int) (rate : Int) (k : Nat) : Int := (lv xs k - lv xs (k + 1)) * disc rate (k + 1)
def nC (xs : List Int) (rate : Int) (k : Nat) : Int := sumF (dC xs rate) k (xs.length - 1 - k)
def mC (xs : List Int) (rate : Int) (k : Nat) : Int := sumF (cC xs rate) k (xs.length - 1 - k)
section
variable {first rate : Int} {xs : List Int} (T : TabOk first xs) (hr : 0 ≤ rate)
include T
theorem dC_zero (k : Nat) (h : xs.length - 1 ≤ k) : dC xs rate k = 0 := by unfold dC; rw [T.zero k (by omega), Int.zero_mul]
theorem cC_zero (k : Nat) (h : xs.length - 1 ≤ k) : cC xs rate k = 0 := by unfold cC; rw [T.zero k (by omega), T.zero (k + 1) (by omega)]; simp
theorem nC_any (k m : Nat) (h : xs.length - 1 ≤ k + m) : sumF (dC xs rate) k m = nC xs rate k := sumF_end (dC_zero T) k m h
theorem mC_any (k m : Nat) (h : xs.length - 1 ≤ k + m) : sumF (cC xs rate) k m = mC xs rate k := sumF_end (cC_zero T) k m h
theorem nC_step (k : Nat) : nC xs rate k = dC xs rate k + nC xs rate (k + 1) := by
  rw [← nC_any T k (xs.length - 1 - (k + 1) + 1) (by omega)]; rfl
theorem mC_step (k : Nat) : mC xs rate k = cC xs rate k + mC xs rate (k + 1) := by
  rw [← mC_any T k (xs.length - 1 - (k + 1) + 1) (by omega)]; rfl
theorem nC_part (k m : Nat) : nC xs rate k - nC xs rate (k + m) = sumF (dC xs rate) k m := by
  have := sumF_split (dC xs rate) k m (xs.length - 1 - (k + m))
  rw [nC_any T k (m + (xs.length - 1 - (k + m))) (by omega), nC_any T (k + m) (xs.length - 1 - (k + m)) (by omega)] at this
  omega
theorem mC_part (k m : Nat) : mC xs rate k - mC xs rate (k + m) = sumF (cC xs rate) k m := by
  have := sumF_split (cC xs rate) k m (xs.length - 1 - (k + m))
  rw [mC_any T k (m + (xs.length - 1 - (k + m))) (by omega), mC_any T (k + m) (xs.length - 1 - (k + m)) (by omega)] at this
  omega
theorem nC_zero (k : Nat) (h : xs.length - 1 ≤ k) : nC xs rate k = 0 := sumF_zero k _ fun j hj => dC_zero T j (by omega)
theorem mC_zero (k : Nat) (h : xs.length - 1 ≤ k) : mC xs rate k = 0 := sumF_zero k _ fun j hj => cC_zero T j (by omega)
include hr
theorem dC_bound (k : Nat) : 0 ≤ dC xs rate k ∧ dC xs rate k ≤ 1000000000000000 := by
  have h1 := disc_bound hr k
  unfold dC
  exact ⟨Int.mul_nonneg (T.nonneg k) h1.1, by have := Int.mul_le_mul (T.most k) h1.2 h1.1 (by omega); omega⟩
theorem cC_bound (k : Nat) : 0 ≤ cC xs rate k ∧ cC xs rate k ≤ dC xs rate k - dC xs rate (k + 1) := by
  have h1 := disc_bound hr (k + 1)
  have h2 := disc_anti hr k
  have h3 := T.anti k
  unfold cC dC
  refine ⟨Int.mul_nonneg (by omega) h1.1, ?_⟩
  rw [Int.sub_mul]
  have := Int.mul_le_mul_of_nonneg_left h2 (T.nonneg k)
  omega
theorem dC_anti (k : Nat) : dC xs rate (k + 1) ≤ dC xs rate k := by have := cC_bound T hr k; omega
theorem dC_anti_add (k : Nat) : ∀ m : Nat, dC xs rate (k + m) ≤ dC xs rate k
  | 0 => Int.le_refl _
  | m + 1 => by have := dC_anti T hr (k + m); have := dC_anti_add k m; rw [← Nat.add_assoc]; omega
theorem cSum_bound : ∀ (k m : Nat), 0 ≤ sumF (cC xs rate) k m ∧ sumF (cC xs rate) k m ≤ dC xs rate k - dC xs rate (k + m)
  | k, 0 => by simp [sumF]
  | k, m + 1 => by
    have h1 := cSum_bound (k + 1) m
    have h2 := cC_bound T hr k
    rw [show k + 1 + m = k + (m + 1) by omega] at h1
    show 0 ≤ cC xs rate k + sumF (cC xs rate) (k + 1) m ∧ cC xs rate k + sumF (cC xs rate) (k + 1) m ≤ _
    omega
theorem dSum_bound : ∀ (k m : Nat), 0 ≤ sumF (dC xs rate) k m ∧ sumF (dC xs rate) k m ≤ (m : Int) * dC xs rate k
  | k, 0 => by simp [sumF]
  | k, m + 1 => by
    have h1 := dSum_bound (k + 1) m
    have h2 := dC_bound T hr k
    have h3 : (m : Int) * dC xs rate (k + 1) ≤ (m : Int) * dC xs rate k := Int.mul_le_mul_of_nonneg_left (dC_anti T hr k) (by omega)
    show 0 ≤ dC xs rate k + sumF (dC xs rate) (k + 1) m ∧ dC xs rate k + sumF (dC xs rate) (k + 1) m ≤ _
    rw [Int.natCast_add, Int.add_mul]
    omega
theorem mC_bound (k : Nat) : 0 ≤ mC xs rate k ∧ mC xs rate k ≤ dC xs rate k := by
  have h1 := cSum_bound T hr k (xs.length - 1 - k)
  have h2 := dC_bound T hr (k + (xs.length - 1 - k))
  unfold mC
  omega
theorem nC_bound (k : Nat) : 0 ≤ nC xs rate k ∧ nC xs rate k ≤ 120 * dC xs rate k := by
  have h1 := dSum_bound T hr k (xs.length - 1 - k)
  have h2 := dC_bound T hr k
  have h3 : ((xs.length - 1 - k : Nat) : Int) * dC xs rate k ≤ 120 * dC xs rate k := Int.mul_le_mul_of_nonneg_right (by have := T.len1; omega) h2.1
  unfold nC
  omega
end

/-- the numerator of the value of an assurance, and the denominator of a level premium -/
def topF (xs : List Int) (rate kind : Int) (k m : Nat) : Int :=
  if kind = 0 then mC xs rate k else if kind = 1 then mC xs rate k - mC xs rate (k + m) else if kind = 2 then mC xs rate k - mC xs rate (k + m) + dC xs rate (k + m) else dC xs rate (k + m)
def baseF (xs : List Int) (rate kind : Int) (k m : Nat) : Int := if kind = 0 then nC xs rate k else nC xs rate k - nC xs rate (k + m)
section
variable {first rate : Int} {xs : List Int} (T : TabOk first xs) (hr : 0 ≤ rate)
include T hr
theorem topF_bound (kind : Int) (k m : Nat) : 0 ≤ topF xs rate kind k m ∧ topF xs rate kind k m ≤ dC xs rate k := by
  have h1 := mC_bound T hr k
  have h2 := cSum_bound T hr k m
  have h3 := mC_part (rate := rate) T k m
  have h4 := dC_bound T hr (k + m)
  have h5 := dC_anti_add T hr k m
  unfold topF
  split
  · exact h1
  · split
    · omega
    · split
      · omega
      · omega
theorem baseF_bound (kind : Int) (k m : Nat) (hm : m ≤ 120) : 0 ≤ baseF xs rate kind k m ∧ baseF xs rate kind k m ≤ 120 * dC xs rate k := by
  have h1 := nC_bound T hr k
  have h2 := dSum_bound T hr k m
  have h3 := nC_part (rate := rate) T k m
  have h4 := dC_bound T hr k
  have h5 : (m : Int) * dC xs rate k ≤ 120 * dC xs rate k := Int.mul_le_mul_of_nonneg_right (by omega) h4.1
  unfold baseF
  split
  · exact h1
  · omega
theorem baseF_pos (kind : Int) (k m : Nat) (h : kind = 0 ∨ 1 ≤ m) : dC xs rate k ≤ baseF xs rate kind k m := by
  have h1 := nC_step (rate := rate) T k
  have h2 := nC_bound T hr (k + 1)
  unfold baseF
  split
  · omega
  · have hm : 1 ≤ m := by rcases h with h | h; contradiction; exact h
    have h3 := nC_part (rate := rate) T k m
    obtain ⟨p, rfl⟩ : ∃ p, m = p + 1 := ⟨m - 1, by omega⟩
    have h4 := dSum_bound T hr (k + 1) p
    have h5 : sumF (dC xs rate) k (p + 1) = dC xs rate k + sumF (dC xs rate) (k + 1) p := rfl
    omega
end
end Go.Proofs.YtbjdbpdgacfcpaaGreat
end

/- The helper functions of the laws for Policy: a copy, a comparison, marks. Each contract holds for every argument of the stated shape. -/
section
namespace Go.Proofs.YtbjdbpdgacfcpaaGreat
open Go.RowKit Go.Deep

structure Policy where
  kind : Int
  age : Int
  years : Int
  sum : Int
  load : Int
def Policy.row (r : Policy) : List Value := [.int .i64 r.kind, .int .i64 r.age, .int .i64 r.years, .int .i64 r.sum, .int .i64 r.load]
def policyRows (xs : List Policy) : List (List Value) := xs.map Policy.row
theorem policyRows_get {xs : List Policy} {k : Nat} {x : Policy} (h : xs[k]? = some x) : (policyRows xs)[k]? = some x.row := by simp [policyRows, h]
theorem policyRows_length (xs : List Policy) : (policyRows xs).length = xs.length := by simp [policyRows]
theorem policyRows_all (xs : List Policy) : ∀ r ∈ policyRows xs, r.length = 5 := by
  intro r hr; obtain ⟨x, _, rfl⟩ := List.mem_map.1 hr; rfl
theorem Policy.oneCell (x : Policy) : ∀ v ∈ x.row, v.oneCell' = true := by simp [Policy.row, Value.oneCell']
theorem Policy.info : (Tryz.prog.info? 88).map (fun i => (i.zero, i.size, i.bytes)) = some (some (.agg #[.int .i64 0, .int .i64 0, .int .i64 0, .int .i64 0, .int .i64 0]), 5, 40) := by kernel_rfl
theorem Policy.size : (Tryz.prog.info? 88).map (·.size) = some 5 := by kernel_rfl
theorem Policy.sizeL : (Tryz.prog.info? 131).map (·.size) = some 5 := by kernel_rfl

theorem Policy.cells {x : Policy} {w : World} {p : Addr} (hc : ∀ (j : Nat) (v : Value), x.row[j]? = some v → w.cell? (p.add j) = some v) : w.cell? p = some (.int .i64 x.kind) ∧ w.cell? ⟨p.block, p.off + 1, none⟩ = some (.int .i64 x.age) ∧ w.cell? ⟨p.block, p.off + 2, none⟩ = some (.int .i64 x.years) ∧ w.cell? ⟨p.block, p.off + 3, none⟩ = some (.int .i64 x.sum) ∧ w.cell? ⟨p.block, p.off + 4, none⟩ = some (.int .i64 x.load) := by
  refine ⟨by have := hc 0 _ rfl; rwa [Addr.add_zero'] at this, hc 1 _ rfl, hc 2 _ rfl, hc 3 _ rfl, hc 4 _ rfl⟩
def Policy.fits (x : Policy) : Prop := In64 x.kind ∧ In64 x.age ∧ In64 x.years ∧ In64 x.sum ∧ In64 x.load
theorem Policy.of_nums : ∀ (rows : List (List Int)), (∀ r ∈ rows, r.length = 5 ∧ ∀ z ∈ r, In64 z) → ∃ xs : List Policy, xs.length = rows.length ∧ policyRows xs = numRows rows ∧ ∀ x ∈ xs, x.fits
  | [], _ => ⟨[], rfl, rfl, by simp⟩
  | q :: rest, h => by
    obtain ⟨xs, hl, hr, hf⟩ := Policy.of_nums rest fun r hr => h r (by simp [hr])
    obtain ⟨hq, hz⟩ := h q (by simp)
    match q, hq with
    | [z0, z1, z2, z3, z4], _ =>
      refine ⟨⟨z0, z1, z2, z3, z4⟩ :: xs, by simp [hl], by rw [policyRows, List.map_cons, numRows, List.map_cons, ← numRows, ← hr]; rfl, fun x hx => ?_⟩
      rcases List.mem_cons.1 hx with rfl | hx
      · exact ⟨hz z0 (by simp), hz z1 (by simp), hz z2 (by simp), hz z3 (by simp), hz z4 (by simp)⟩
      · exact hf x hx
theorem Policy.of_num {zs : List Int} (hl : zs.length = 5) (hz : ∀ z ∈ zs, In64 z) : ∃ x : Policy, (zs.map (Value.int .i64)).toArray = x.row.toArray ∧ x.fits := by
  match zs, hl with
  | [z0, z1, z2, z3, z4], _ => exact ⟨⟨z0, z1, z2, z3, z4⟩, rfl, hz z0 (by simp), hz z1 (by simp), hz z2 (by simp), hz z3 (by simp), hz z4 (by simp)⟩

theorem Policy.intCells : IntCells Tryz.prog 131 5 := by
  refine intCells_flat Tryz.underlying131 (by kernel_rfl) Tryz.underlying2 (by kernel_rfl) fun j hj => ?_
  rcases (by omega : j = 0 ∨ j = 1 ∨ j = 2 ∨ j = 3 ∨ j = 4) with rfl | rfl | rfl | rfl | rfl
  all_goals exact ⟨_, rfl, rfl, rfl⟩

theorem toPolicy_any (x : Policy) (w : World) :
    Calls Tryz.prog 157 #[.agg x.row.toArray] w fun e' w' => e' = .returned (.agg x.row.toArray) ∧ Below w.heap.size w w' := by
  unfold Policy.row
  go_enter Tryz.func157, Tryz.ntmps157
  go_wp2
  refine bodyPost_ret (v := .agg x.row.toArray) (by simp [results, Tryz.results157, go_sem, Policy.row]) rfl ⟨rfl, ?_⟩
  exact (((Below.refl _ _).alloc (Nat.le_refl _) _).alloc (by simp) _).alloc (by simp; omega) _

theorem eqPolicy_any (x : Policy) (w : World) :
    Calls Tryz.prog 163 #[.agg x.row.toArray, .agg x.row.toArray] w fun e' w' => e' = .returned (.bool true) ∧ Below w.heap.size w w' := by
  unfold Policy.row
  go_enter Tryz.func163, Tryz.ntmps163
  go_wp2
  go_ret
  exact ⟨rfl, ((Below.refl _ _).alloc (Nat.le_refl _) _).alloc (by simp) _⟩






end Go.Proofs.YtbjdbpdgacfcpaaGreat
end

/- The helper functions of the laws for Holding: a copy, a comparison, marks. Each contract holds for every argument of the stated shape. -/
section
namespace Go.Proofs.YtbjdbpdgacfcpaaGreat
open Go.RowKit Go.Deep

structure Holding where
  kind : Int
  age : Int
  years : Int
  sum : Int
  load : Int
  year : Int
  count : Int
def Holding.row (r : Holding) : List Value := [.int .i64 r.kind, .int .i64 r.age, .int .i64 r.years, .int .i64 r.sum, .int .i64 r.load, .int .i64 r.year, .int .i64 r.count]
def holdingRows (xs : List Holding) : List (List Value) := xs.map Holding.row
theorem holdingRows_get {xs : List Holding} {k : Nat} {x : Holding} (h : xs[k]? = some x) : (holdingRows xs)[k]? = some x.row := by simp [holdingRows, h]
theorem holdingRows_length (xs : List Holding) : (holdingRows xs).length = xs.length := by simp [holdingRows]
theorem holdingRows_all (xs : List Holding) : ∀ r ∈ holdingRows xs, r.length = 7 := by
  intro r hr; obtain ⟨x, _, rfl⟩ := List.mem_map.1 hr; rfl
theorem Holding.oneCell (x : Holding) : ∀ v ∈ x.row, v.oneCell' = true := by simp [Holding.row, Value.oneCell']
theorem Holding.info : (Tryz.prog.info? 90).map (fun i => (i.zero, i.size, i.bytes)) = some (some (.agg #[.int .i64 0, .int .i64 0, .int .i64 0, .int .i64 0, .int .i64 0, .int .i64 0, .int .i64 0]), 7, 56) := by kernel_rfl
theorem Holding.size : (Tryz.prog.info? 90).map (·.size) = some 7 := by kernel_rfl
theorem Holding.sizeL : (Tryz.prog.info? 133).map (·.size) = some 7 := by kernel_rfl

theorem Holding.cells {x : Holding} {w : World} {p : Addr} (hc : ∀ (j : Nat) (v : Value), x.row[j]? = some v → w.cell? (p.add j) = some v) : w.cell? p = some (.int .i64 x.kind) ∧ w.cell? ⟨p.block, p.off + 1, none⟩ = some (.int .i64 x.age) ∧ w.cell? ⟨p.block, p.off + 2, none⟩ = some (.int .i64 x.years) ∧ w.cell? ⟨p.block, p.off + 3, none⟩ = some (.int .i64 x.sum) ∧ w.cell? ⟨p.block, p.off + 4, none⟩ = some (.int .i64 x.load) ∧ w.cell? ⟨p.block, p.off + 5, none⟩ = some (.int .i64 x.year) ∧ w.cell? ⟨p.block, p.off + 6, none⟩ = some (.int .i64 x.count) := by
  refine ⟨by have := hc 0 _ rfl; rwa [Addr.add_zero'] at this, hc 1 _ rfl, hc 2 _ rfl, hc 3 _ rfl, hc 4 _ rfl, hc 5 _ rfl, hc 6 _ rfl⟩
def Holding.fits (x : Holding) : Prop := In64 x.kind ∧ In64 x.age ∧ In64 x.years ∧ In64 x.sum ∧ In64 x.load ∧ In64 x.year ∧ In64 x.count
theorem Holding.of_nums : ∀ (rows : List (List Int)), (∀ r ∈ rows, r.length = 7 ∧ ∀ z ∈ r, In64 z) → ∃ xs : List Holding, xs.length = rows.length ∧ holdingRows xs = numRows rows ∧ ∀ x ∈ xs, x.fits
  | [], _ => ⟨[], rfl, rfl, by simp⟩
  | q :: rest, h => by
    obtain ⟨xs, hl, hr, hf⟩ := Holding.of_nums rest fun r hr => h r (by simp [hr])
    obtain ⟨hq, hz⟩ := h q (by simp)
    match q, hq with
    | [z0, z1, z2, z3, z4, z5, z6], _ =>
      refine ⟨⟨z0, z1, z2, z3, z4, z5, z6⟩ :: xs, by simp [hl], by rw [holdingRows, List.map_cons, numRows, List.map_cons, ← numRows, ← hr]; rfl, fun x hx => ?_⟩
      rcases List.mem_cons.1 hx with rfl | hx
      · exact ⟨hz z0 (by simp), hz z1 (by simp), hz z2 (by simp), hz z3 (by simp), hz z4 (by simp), hz z5 (by simp), hz z6 (by simp)⟩
      · exact hf x hx
theorem Holding.of_num {zs : List Int} (hl : zs.length = 7) (hz : ∀ z ∈ zs, In64 z) : ∃ x : Holding, (zs.map (Value.int .i64)).toArray = x.row.toArray ∧ x.fits := by
  match zs, hl with
  | [z0, z1, z2, z3, z4, z5, z6], _ => exact ⟨⟨z0, z1, z2, z3, z4, z5, z6⟩, rfl, hz z0 (by simp), hz z1 (by simp), hz z2 (by simp), hz z3 (by simp), hz z4 (by simp), hz z5 (by simp), hz z6 (by simp)⟩

set_option maxRecDepth 100000 in
theorem Holding.intCells : IntCells Tryz.prog 133 7 := by
  refine intCells_struct Tryz.underlying133 (by kernel_rfl) fun j hj => ?_
  have h5 : Tryz.prog.cellsOf 131 = 5 := by kernel_rfl
  have h1 : Tryz.prog.cellsOf 2 = 1 := by kernel_rfl
  rcases (by omega : j < 5 ∨ j = 5 ∨ j = 6) with h | rfl | rfl
  · exact ⟨0, _, rfl, Nat.zero_le _, by show j < 0 + Tryz.prog.cellsOf 131; omega, by show IntCells Tryz.prog 131 (Tryz.prog.cellsOf 131); rw [h5]; exact Policy.intCells⟩
  · exact ⟨1, _, rfl, Nat.le_refl _, by show 5 < 5 + Tryz.prog.cellsOf 2; omega, by show IntCells Tryz.prog 2 (Tryz.prog.cellsOf 2); rw [h1]; exact intCells_int Tryz.underlying2⟩
  · exact ⟨2, _, rfl, Nat.le_refl _, by show 6 < 6 + Tryz.prog.cellsOf 2; omega, by show IntCells Tryz.prog 2 (Tryz.prog.cellsOf 2); rw [h1]; exact intCells_int Tryz.underlying2⟩

set_option maxHeartbeats 1000000 in
theorem toHolding_any (x : Holding) (w : World) :
    Calls Tryz.prog 122 #[.agg x.row.toArray] w fun e' w' => e' = .returned (.agg x.row.toArray) ∧ Below w.heap.size w w' := by
  unfold Holding.row
  go_enter Tryz.func122, Tryz.ntmps122
  go_wp2
  refine bodyPost_ret (v := .agg #[.int .i64 x.kind, .int .i64 x.age, .int .i64 x.years, .int .i64 x.sum, .int .i64 x.load]) (by simp [results, Tryz.results157, go_sem]) rfl ?_
  rename_i K hK
  refine hK _ _ ?_
  clear hK K
  go_wp2
  refine bodyPost_ret (v := .agg x.row.toArray) (by simp [results, Tryz.results122, go_sem, Holding.row]) rfl ⟨rfl, ?_⟩
  repeat (first | exact Below.refl _ _ | refine Below.alloc ?_ (by simp <;> omega) _ | refine Below.setCell ?_ (by simp <;> omega) _)

theorem eqHolding_any (x : Holding) (w : World) :
    Calls Tryz.prog 128 #[.agg x.row.toArray, .agg x.row.toArray] w fun e' w' => e' = .returned (.bool true) ∧ Below w.heap.size w w' := by
  have hb0 : Below w.heap.size w ((w.alloc (.cells x.row.toArray 90)).alloc (.cells x.row.toArray 90)) := ((Below.refl _ w).alloc (Nat.le_refl _) _).alloc (by simp) _
  have B1 := Lib.hid ((Blk.new w 90 x.row.toArray).alloc (.cells x.row.toArray 90))
  have B2 := Lib.hid (Blk.new (w.alloc (.cells x.row.toArray 90)) 90 x.row.toArray)
  rw [World.size_alloc] at B2
  unfold Holding.row at *
  go_enter Tryz.func128, Tryz.ntmps128
  go_wp2_with fail
  refine (eqPolicy_any ⟨x.kind, x.age, x.years, x.sum, x.load⟩ _).mono ?_
  rintro e w1 ⟨rfl, hb1⟩
  have c5 : w1.cell? ⟨w.heap.size, 5, none⟩ = some (.int .i64 x.year) := (B1.out.below' hb1).cell 5
  have c6 : w1.cell? ⟨w.heap.size, 6, none⟩ = some (.int .i64 x.count) := (B1.out.below' hb1).cell 6
  have d5 : w1.cell? ⟨w.heap.size + 1, 5, none⟩ = some (.int .i64 x.year) := (B2.out.below' hb1).cell 5
  have d6 : w1.cell? ⟨w.heap.size + 1, 6, none⟩ = some (.int .i64 x.count) := (B2.out.below' hb1).cell 6
  go_wp2
  go_ret
  exact ⟨rfl, hb0.trans (hb1.mono hb0.size)⟩

theorem szHoldingS_yes (A : Option Addr) (n cap : Nat) (left : Int) (w : World) (h0 : (n : Int) ≤ left) (h1 : left ≤ 1048576) :
    Calls Tryz.prog 49 #[.slice A n cap, .int .i64 left] w fun e' w' => e' = .returned (.int .i64 (left - (n : Int))) ∧ w = w' := by
  have h2 : ¬ (left - (n : Int) < 0) := by omega
  go_enter Tryz.func49, Tryz.ntmps49
  go_wp2
  go_ret
  exact ⟨rfl, rfl⟩
theorem szHoldingS_no (A : Option Addr) (n cap : Nat) (left : Int) (w : World) (hn : n ≤ 9223372036854775807) (h0 : left < (n : Int)) (h1 : 0 ≤ left) (h2' : left ≤ 1048576) :
    Calls Tryz.prog 49 #[.slice A n cap, .int .i64 left] w fun e' w' => e' = .returned (.int .i64 (-1)) ∧ w = w' := by
  have h2 : (left - (n : Int) < 0) := by omega
  go_enter Tryz.func49, Tryz.ntmps49
  go_wp2
  go_ret
  exact ⟨rfl, rfl⟩

set_option maxHeartbeats 400000 in
theorem toHoldingS_any (A : Option Addr) (n cap : Nat) (xs : List Holding) (w : World) (hn : n ≤ 1048576) (hl : xs.length = n) (hX : Rd w w.heap.size A 7 (holdingRows xs)) :
    Calls Tryz.prog 52 #[.slice A n cap] w fun e' w' => ∃ g, e' = .returned (.slice (some ⟨g, 0, none⟩) n n) ∧ Res w.heap.size w' 90 7 (some ⟨g, 0, none⟩) n n (holdingRows xs) ∧ Below w.heap.size w w' := by
  obtain ⟨i0, hi0, hz0, hz1, hz2⟩ := info_parts Holding.info
  have hmk := fun W => run_make_rowN (P := Tryz.prog) 29 90 i0 _ Tryz.underlying29 hi0 hz0 .i64 .i64 n n (Nat.le_refl _) (by rw [hz2]; omega) (by omega) W
  rw [hz1] at hmk
  have HX := Lib.hid hX; clear hX
  have HL := Lib.hid hl; clear hl
  clear hi0 hz0 hz1 hz2
  go_enter Tryz.func52, Tryz.ntmps52
  go_wp2
  clear hmk
  go_loopw [4] (fun i wr => ∃ k : Nat, k ≤ n ∧ i = .int .i64 k ∧ (∃ cs, Blk wr w.heap.size 90 cs ∧ cs.size = n * 7 ∧ Filled cs 7 (holdingRows xs) k) ∧ Below w.heap.size w wr) (fun i _ => n - (intOf i).toNat)
  case atStart => exact ⟨0, by omega, rfl, ⟨_, Blk.new _ _ _, by simp [madeCells], Filled.zero⟩, (Below.refl _ _).alloc (Nat.le_refl _) _⟩
  case round =>
    obtain ⟨k, hk, rfl, ⟨cs, hcs, hsz, hcs2⟩, hb⟩ := hrel
    have Hcs2 := Lib.hid hcs2; clear hcs2
    have Hsz := Lib.hid hsz; clear hsz
    have Hcs := Lib.hid hcs; clear hcs
    by_cases hlt : k < n
    · obtain ⟨x, hx⟩ := get_of_lt (xs := xs) (k := k) (by rw [HL.out]; exact hlt)
      obtain ⟨ad, rfl, had, _, hc⟩ := (HX.out.below hb).at' (holdingRows_get hx)
      have Hc := Lib.hid hc; clear hc
      have Hx := Lib.hid hx; clear hx
      go_wp2_with (refine wpList_load_agg rfl 133 _ rfl (ad.add (k * 7)) rfl x.row Hc.out _ Tryz.underlying133 rfl Holding.sizeL ?_)
      refine (toHolding_any x _).mono ?_
      rintro e w1 ⟨rfl, hb1⟩
      have Hcs1 := Lib.hid (Hcs.out.below' hb1)
      have hlt' : w.heap.size < w1.heap.size := Hcs1.out.lt
      have hfit : k * 7 + 7 ≤ cs.size := by rw [Hsz.out]; omega
      go_wp2_with (refine wpList_store_agg rfl 90 _ _ rfl w.heap.size (k * 7) x.row rfl rfl 90 cs Hcs1.out Holding.size hfit x.oneCell ?_)
      intro w2 hcs2 hg2 hs2
      have Hcs2' := Lib.hid hcs2; clear hcs2
      have hb2 : Below w.heap.size w w2 := ((hb.trans (hb1.mono hb.size))).trans (below_grown hg2 (by omega))
      have Hs2 := Lib.hid hs2; clear hs2
      go_wp2
      go_roundw
      case rel => exact ⟨k + 1, by omega, by go_num, ⟨_, Hcs2'.out, by rw [putAt_size (by exact hfit)]; exact Hsz.out, Hcs2.out.step (holdingRows_get Hx.out) rfl (holdingRows_all xs) hfit⟩, hb2⟩
      case measure => simp [intOf]; omega
    · have hkn : k = n := by omega
      subst hkn
      go_wp2
      go_ret
      refine ⟨w.heap.size, rfl, Filled.res Hcs.out Hcs2.out (by rw [holdingRows_length, HL.out]) Hsz.out (Nat.le_refl _) (by unfold maxLen; omega) (holdingRows_all xs), hb⟩

set_option maxHeartbeats 1000000 in
theorem eqHoldingS_any (A A' : Option Addr) (n cap cap' : Nat) (xs : List Holding) (w : World) (hn : n ≤ 140737488355328) (hl : xs.length = n) (hX : Rd w w.heap.size A 7 (holdingRows xs)) (hX' : Rd w w.heap.size A' 7 (holdingRows xs)) :
    Calls Tryz.prog 56 #[.slice A n cap, .slice A' n cap'] w fun e' w' => e' = .returned (.bool true) ∧ Below w.heap.size w w' := by
  have HX := Lib.hid hX; clear hX
  have HX' := Lib.hid hX'; clear hX'
  have HL := Lib.hid hl; clear hl
  go_enter Tryz.func56, Tryz.ntmps56
  go_wp2
  go_loopw [5] (fun i wr => ∃ k : Nat, k ≤ n ∧ i = .int .i64 k ∧ Below w.heap.size w wr) (fun i _ => n - (intOf i).toNat)
  case atStart => exact ⟨0, by omega, rfl, Below.refl _ _⟩
  case round =>
    obtain ⟨k, hk, rfl, hb⟩ := hrel
    by_cases hlt : k < n
    · obtain ⟨x, hx⟩ := get_of_lt (xs := xs) (k := k) (by rw [HL.out]; exact hlt)
      obtain ⟨ad, rfl, had, _, hc⟩ := (HX.out.below hb).at' (holdingRows_get hx)
      obtain ⟨ad', rfl, had', _, hc'⟩ := (HX'.out.below hb).at' (holdingRows_get hx)
      clear hx
      have c0 : wr.cell? (ad.add (k * 7)) = some (.int .i64 x.kind) := by have := hc 0 _ rfl; rwa [Addr.add_zero'] at this
      have c1 : wr.cell? ⟨(ad.add (k * 7)).block, (ad.add (k * 7)).off + 1, none⟩ = some (.int .i64 x.age) := hc 1 _ rfl
      have c2 : wr.cell? ⟨(ad.add (k * 7)).block, (ad.add (k * 7)).off + 2, none⟩ = some (.int .i64 x.years) := hc 2 _ rfl
      have c3 : wr.cell? ⟨(ad.add (k * 7)).block, (ad.add (k * 7)).off + 3, none⟩ = some (.int .i64 x.sum) := hc 3 _ rfl
      have c4 : wr.cell? ⟨(ad.add (k * 7)).block, (ad.add (k * 7)).off + 4, none⟩ = some (.int .i64 x.load) := hc 4 _ rfl
      have c5 : wr.cell? ⟨(ad.add (k * 7)).block, (ad.add (k * 7)).off + 5, none⟩ = some (.int .i64 x.year) := hc 5 _ rfl
      have c6 : wr.cell? ⟨(ad.add (k * 7)).block, (ad.add (k * 7)).off + 6, none⟩ = some (.int .i64 x.count) := hc 6 _ rfl
      have d0 : wr.cell? (ad'.add (k * 7)) = some (.int .i64 x.kind) := by have := hc' 0 _ rfl; rwa [Addr.add_zero'] at this
      have d1 : wr.cell? ⟨(ad'.add (k * 7)).block, (ad'.add (k * 7)).off + 1, none⟩ = some (.int .i64 x.age) := hc' 1 _ rfl
      have d2 : wr.cell? ⟨(ad'.add (k * 7)).block, (ad'.add (k * 7)).off + 2, none⟩ = some (.int .i64 x.years) := hc' 2 _ rfl
      have d3 : wr.cell? ⟨(ad'.add (k * 7)).block, (ad'.add (k * 7)).off + 3, none⟩ = some (.int .i64 x.sum) := hc' 3 _ rfl
      have d4 : wr.cell? ⟨(ad'.add (k * 7)).block, (ad'.add (k * 7)).off + 4, none⟩ = some (.int .i64 x.load) := hc' 4 _ rfl
      have d5 : wr.cell? ⟨(ad'.add (k * 7)).block, (ad'.add (k * 7)).off + 5, none⟩ = some (.int .i64 x.year) := hc' 5 _ rfl
      have d6 : wr.cell? ⟨(ad'.add (k * 7)).block, (ad'.add (k * 7)).off + 6, none⟩ = some (.int .i64 x.count) := hc' 6 _ rfl
      clear hc hc'
      have hS : ∀ w' : World, Below wr.heap.size wr w' → (Below w.heap.size w w' ∧ w'.cell? (ad.add (k * 7)) = some (.int .i64 x.kind) ∧ w'.cell? ⟨(ad.add (k * 7)).block, (ad.add (k * 7)).off + 1, none⟩ = some (.int .i64 x.age) ∧ w'.cell? ⟨(ad.add (k * 7)).block, (ad.add (k * 7)).off + 2, none⟩ = some (.int .i64 x.years) ∧ w'.cell? ⟨(ad.add (k * 7)).block, (ad.add (k * 7)).off + 3, none⟩ = some (.int .i64 x.sum) ∧ w'.cell? ⟨(ad.add (k * 7)).block, (ad.add (k * 7)).off + 4, none⟩ = some (.int .i64 x.load) ∧ w'.cell? ⟨(ad.add (k * 7)).block, (ad.add (k * 7)).off + 5, none⟩ = some (.int .i64 x.year) ∧ w'.cell? ⟨(ad.add (k * 7)).block, (ad.add (k * 7)).off + 6, none⟩ = some (.int .i64 x.count) ∧ w'.cell? (ad'.add (k * 7)) = some (.int .i64 x.kind) ∧ w'.cell? ⟨(ad'.add (k * 7)).block, (ad'.add (k * 7)).off + 1, none⟩ = some (.int .i64 x.age) ∧ w'.cell? ⟨(ad'.add (k * 7)).block, (ad'.add (k * 7)).off + 2, none⟩ = some (.int .i64 x.years) ∧ w'.cell? ⟨(ad'.add (k * 7)).block, (ad'.add (k * 7)).off + 3, none⟩ = some (.int .i64 x.sum) ∧ w'.cell? ⟨(ad'.add (k * 7)).block, (ad'.add (k * 7)).off + 4, none⟩ = some (.int .i64 x.load) ∧ w'.cell? ⟨(ad'.add (k * 7)).block, (ad'.add (k * 7)).off + 5, none⟩ = some (.int .i64 x.year) ∧ w'.cell? ⟨(ad'.add (k * 7)).block, (ad'.add (k * 7)).off + 6, none⟩ = some (.int .i64 x.count)) :=
        fun w' h => ⟨hb.trans (h.mono hb.size), (h.cell (by show (ad.add (k * 7)).block < _; rw [block_of_add]; have := hb.size; omega)).trans c0, (h.cell (by show (ad.add (k * 7)).block < _; rw [block_of_add]; have := hb.size; omega)).trans c1, (h.cell (by show (ad.add (k * 7)).block < _; rw [block_of_add]; have := hb.size; omega)).trans c2, (h.cell (by show (ad.add (k * 7)).block < _; rw [block_of_add]; have := hb.size; omega)).trans c3, (h.cell (by show (ad.add (k * 7)).block < _; rw [block_of_add]; have := hb.size; omega)).trans c4, (h.cell (by show (ad.add (k * 7)).block < _; rw [block_of_add]; have := hb.size; omega)).trans c5, (h.cell (by show (ad.add (k * 7)).block < _; rw [block_of_add]; have := hb.size; omega)).trans c6, (h.cell (by show (ad'.add (k * 7)).block < _; rw [block_of_add]; have := hb.size; omega)).trans d0, (h.cell (by show (ad'.add (k * 7)).block < _; rw [block_of_add]; have := hb.size; omega)).trans d1, (h.cell (by show (ad'.add (k * 7)).block < _; rw [block_of_add]; have := hb.size; omega)).trans d2, (h.cell (by show (ad'.add (k * 7)).block < _; rw [block_of_add]; have := hb.size; omega)).trans d3, (h.cell (by show (ad'.add (k * 7)).block < _; rw [block_of_add]; have := hb.size; omega)).trans d4, (h.cell (by show (ad'.add (k * 7)).block < _; rw [block_of_add]; have := hb.size; omega)).trans d5, (h.cell (by show (ad'.add (k * 7)).block < _; rw [block_of_add]; have := hb.size; omega)).trans d6⟩
      have HS := Lib.hid hS; clear hS
      clear c0 c1 c2 c3 c4 c5 c6 d0 d1 d2 d3 d4 d5 d6
      go_wp2
      go_region_held3 (fun w' => Below w.heap.size w w' ∧ w'.cell? (ad.add (k * 7)) = some (.int .i64 x.kind) ∧ w'.cell? ⟨(ad.add (k * 7)).block, (ad.add (k * 7)).off + 1, none⟩ = some (.int .i64 x.age) ∧ w'.cell? ⟨(ad.add (k * 7)).block, (ad.add (k * 7)).off + 2, none⟩ = some (.int .i64 x.years) ∧ w'.cell? ⟨(ad.add (k * 7)).block, (ad.add (k * 7)).off + 3, none⟩ = some (.int .i64 x.sum) ∧ w'.cell? ⟨(ad.add (k * 7)).block, (ad.add (k * 7)).off + 4, none⟩ = some (.int .i64 x.load) ∧ w'.cell? ⟨(ad.add (k * 7)).block, (ad.add (k * 7)).off + 5, none⟩ = some (.int .i64 x.year) ∧ w'.cell? ⟨(ad.add (k * 7)).block, (ad.add (k * 7)).off + 6, none⟩ = some (.int .i64 x.count) ∧ w'.cell? (ad'.add (k * 7)) = some (.int .i64 x.kind) ∧ w'.cell? ⟨(ad'.add (k * 7)).block, (ad'.add (k * 7)).off + 1, none⟩ = some (.int .i64 x.age) ∧ w'.cell? ⟨(ad'.add (k * 7)).block, (ad'.add (k * 7)).off + 2, none⟩ = some (.int .i64 x.years) ∧ w'.cell? ⟨(ad'.add (k * 7)).block, (ad'.add (k * 7)).off + 3, none⟩ = some (.int .i64 x.sum) ∧ w'.cell? ⟨(ad'.add (k * 7)).block, (ad'.add (k * 7)).off + 4, none⟩ = some (.int .i64 x.load) ∧ w'.cell? ⟨(ad'.add (k * 7)).block, (ad'.add (k * 7)).off + 5, none⟩ = some (.int .i64 x.year) ∧ w'.cell? ⟨(ad'.add (k * 7)).block, (ad'.add (k * 7)).off + 6, none⟩ = some (.int .i64 x.count))
        (first | exact HS.out _ (of_drew hb1) | exact HS.out _ (Below.drew (Below.refl _ _))) ((go_at_call 128; refine (eqHolding_any x _).mono ?_; rintro e1 w1 ⟨rfl, hb1⟩))
      have hb2 : Below w.heap.size w w1 := hb.trans ((of_drew hb1).mono hb.size)
      go_wp2
      go_roundw
      case rel => exact ⟨k + 1, by omega, by go_num, hb2⟩
      case measure => simp [intOf]; omega
    · go_wp2
      go_ret
      exact ⟨rfl, hb⟩

set_option maxHeartbeats 1000000 in
theorem markHoldingS_any (B : Nat) (A : Option Addr) (n cap k0 : Nat) (rows : List (List Value)) (w : World) (hn : n ≤ 1048576) (hk0 : k0 ≤ 1000000000) (hR : Res B w 90 7 A n cap rows) :
    Calls Tryz.prog 58 #[.slice A n cap, .int .i64 (k0 : Int)] w fun e' w' => e' = .returned (.int .i64 ((k0 : Int) + n * 7)) ∧ Turned w w' A n ∧ Marked w' A n 7 k0 := by
  have hA : 0 < n → ∃ g cs, A = some ⟨g, 0, none⟩ ∧ Blk w g 90 cs ∧ n * 7 ≤ cs.size := fun h => by
    obtain ⟨g, cs, e, _, hb, hs, _⟩ := hR.at_ h; exact ⟨g, cs, e, hb, hs⟩
  clear hR
  have HA := Lib.hid hA; clear hA
  go_enter Tryz.func58, Tryz.ntmps58
  go_wp2
  go_loopw [1, 5] (fun q i wr => ∃ k : Nat, k ≤ n ∧ i = .int .i64 k ∧ q = .int .i64 ((k0 : Int) + k * 7) ∧ ((k = 0 ∧ w = wr) ∨ (0 < n ∧ ∃ g cs, A = some ⟨g, 0, none⟩ ∧ Blk wr g 90 cs ∧ n * 7 ≤ cs.size ∧ (∀ j : Nat, j < k * 7 → cs[j]? = some (.int .i64 ((k0 : Int) + j))) ∧ w.grownBy wr (some g)))) (fun _ i _ => n - (intOf i).toNat)
  case atStart => exact ⟨0, by omega, rfl, by simp, .inl ⟨rfl, rfl⟩⟩
  case round =>
    obtain ⟨k, hk, rfl, rfl, hrel⟩ := hrel
    have Hrel := Lib.hid hrel; clear hrel
    by_cases hlt : k < n
    · obtain ⟨g, cs, rfl, hcs, hsz, hcs2, hg⟩ : ∃ g cs, A = some ⟨g, 0, none⟩ ∧ Blk wr g 90 cs ∧ n * 7 ≤ cs.size ∧ (∀ j : Nat, j < k * 7 → cs[j]? = some (.int .i64 ((k0 : Int) + j))) ∧ w.grownBy wr (some g) := by
        rcases Hrel.out with ⟨rfl, rfl⟩ | ⟨_, g, cs, r⟩
        · obtain ⟨g, cs, e, hb, hs⟩ := HA.out (by omega)
          exact ⟨g, cs, e, hb, hs, fun j hj => absurd hj (by omega), World.grownBy.refl _ _⟩
        · exact ⟨g, cs, r⟩
      clear Hrel HA
      obtain ⟨v0, e0⟩ := hcs.has (i := k * 7) (by omega)
      have f0 := hcs.frozen (k * 7)
      obtain ⟨v1, e1⟩ := hcs.has (i := k * 7 + 1) (by omega)
      have f1 := hcs.frozen (k * 7 + 1)
      obtain ⟨v2, e2⟩ := hcs.has (i := k * 7 + 2) (by omega)
      have f2 := hcs.frozen (k * 7 + 2)
      obtain ⟨v3, e3⟩ := hcs.has (i := k * 7 + 3) (by omega)
      have f3 := hcs.frozen (k * 7 + 3)
      obtain ⟨v4, e4⟩ := hcs.has (i := k * 7 + 4) (by omega)
      have f4 := hcs.frozen (k * 7 + 4)
      obtain ⟨v5, e5⟩ := hcs.has (i := k * 7 + 5) (by omega)
      have f5 := hcs.frozen (k * 7 + 5)
      obtain ⟨v6, e6⟩ := hcs.has (i := k * 7 + 6) (by omega)
      have f6 := hcs.frozen (k * 7 + 6)
      have Hcs2 := Lib.hid hcs2; clear hcs2
      have Hcs := Lib.hid hcs; clear hcs
      have Hg := Lib.hid hg; clear hg
      go_wp2
      go_roundw
      case rel => exact ⟨k + 1, by omega, by go_num, by go_num, .inr ⟨by omega, g, _, rfl, (((((((Hcs.out).set_ _ _).set_ _ _).set_ _ _).set_ _ _).set_ _ _).set_ _ _).set_ _ _, by simp; omega, by rw [Nat.add_mul]; exact marks_step (marks_step (marks_step (marks_step (marks_step (marks_step (marks_step (Hcs2.out) (by omega) (by go_num)) (by simp; omega) (by go_num)) (by simp; omega) (by go_num)) (by simp; omega) (by go_num)) (by simp; omega) (by go_num)) (by simp; omega) (by go_num)) (by simp; omega) (by go_num), grown_set (grown_set (grown_set (grown_set (grown_set (grown_set (grown_set (Hg.out) _ _) _ _) _ _) _ _) _ _) _ _) _ _⟩⟩
      case measure => simp [intOf]; omega
    · have hkn : k = n := by omega
      subst hkn
      go_wp2
      go_ret
      refine ⟨rfl, ?_⟩
      rcases Hrel.out with ⟨rfl, rfl⟩ | ⟨h0, g, cs, rfl, hb, hs, hc, hg⟩
      · exact ⟨.inl rfl, .inl rfl⟩
      · exact ⟨.inr ⟨h0, g, rfl, hg⟩, .inr ⟨g, rfl, hb.lt, fun j hj => by rw [hb.cell]; exact hc j hj⟩⟩
theorem markHoldingS_at (B : Nat) (A : Option Addr) (n cap k0 : Nat) (k : Int) (rows : List (List Value)) (w : World) (hn : n ≤ 1048576) (hk0 : k0 ≤ 1000000000) (hR : Res B w 90 7 A n cap rows) (hk : k = (k0 : Int)) :
    Calls Tryz.prog 58 #[.slice A n cap, .int .i64 k] w fun e' w' => e' = .returned (.int .i64 (k + n * 7)) ∧ Turned w w' A n ∧ Marked w' A n 7 k0 := by
  subst hk; exact markHoldingS_any B A n cap k0 rows w hn hk0 hR


end Go.Proofs.YtbjdbpdgacfcpaaGreat
end
