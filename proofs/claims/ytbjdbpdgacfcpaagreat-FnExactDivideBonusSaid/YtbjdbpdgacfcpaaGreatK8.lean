/- Parts of a proof, one after another: LifeS, Shelf, DivP, Div. No condition. -/
import Derived.Test.YtbjdbpdgacfcpaaGreatK2
import Derived.Test.YtbjdbpdgacfcpaaGreatK6
import Derived.Test.YtbjdbpdgacfcpaaGreatK7
import Derived.Shelf.Small.Bits
import Derived.Shelf.Strconv.Itoa0
import Derived.Shelf.Bits.Mul64
import Derived.Test.YtbjdbpdgacfcpaaGreatProg
import Derived.IntWalk
import Derived.Laws.MathBits
import Derived.Lib.BitFns
import Derived.Laws.Bits64b
import Derived.Lib.ItoaNum
/- Life tables: whether they are valid: the reference's contract. -/
section
namespace Go.Proofs.YtbjdbpdgacfcpaaGreat
open Go.RowKit Go.BigFrame
theorem table_no {first : Int} {xs : List Int} (h : TabOk first xs → False) : tableB first xs = false := by
  cases e : tableB first xs
  · rfl
  · exact (h (table_ok e)).elim
theorem table_yes {first : Int} {xs : List Int} {n : Nat} (hl : xs.length = n) (h1 : inR first 0 100 = true) (h2 : 2 ≤ n ∧ n ≤ 120) (h3 : 1 ≤ lv xs 0 ∧ lv xs 0 ≤ 1000000) (h4 : lv xs (n - 1) = 0) (h5 : first + (n : Int) - 1 ≤ 150)
    (h6 : ∀ i : Nat, 1 ≤ i → i < n → lv xs i ≤ lv xs (i - 1) ∧ (i + 1 < n → 1 ≤ lv xs i)) : tableB first xs = true := by
  have e : headB first xs = true := by
    have : inR (n : Int) 2 120 = true := inR_true.2 (by omega)
    simp [headB, hl, h1, this, h3, h4, h5]
  rw [tableB, e, Bool.true_and, List.all_eq_true]
  intro i hi
  rw [hl] at hi
  have hi' : i < n - 1 := by simpa using hi
  by_cases h0 : i = 0
  · subst h0; simp [rowB, h3]
  · have := h6 i (by omega) (by omega)
    simp only [rowB, Bool.and_eq_true, Bool.or_eq_true, decide_eq_true_eq]
    exact ⟨this.2 (by omega), .inr this.1⟩

set_option maxHeartbeats 4000000 in
theorem spec_IsLifeTable_any (first : Int) (A : Option Addr) (n cap : Nat) (xs : List Int) (w : World) (hT : LiesT w A n xs) (_hcap : n ≤ cap) (_hf : In64 first) :
    Calls Tryz.prog 84 #[.agg #[.int .i64 first, .slice A n cap]] w fun e w' => e = .returned (.bool (tableB first xs)) ∧ Below w.heap.size w w' := by
  have hbw : Below w.heap.size w (w.alloc (.cells #[.int .i64 first, .slice A n cap] 26)) := (Below.refl _ w).alloc (Nat.le_refl _) _
  have HT := Lib.hid (hT.past hbw); clear hT
  have HB := Lib.hid (Blk.new w 26 #[.int .i64 first, .slice A n cap])
  have hn := HT.out.small
  have HL := Lib.hid HT.out.len
  by_cases h2 : 2 ≤ n
  rotate_left
  · have Q := Lib.hid (show tableB first xs = false from table_no fun T => by have := T.len0; have := HL.out; omega)
    go_enter Tryz.func84, Tryz.ntmps84
    go_wp2_with (first | (go_at_call 85; refine (spec_l01In_any _ _ _ _).mono ?_; rintro e w' ⟨rfl, rfl⟩))
    go_ret
    exact ⟨by rw [Q.out]; rfl, hbw⟩
  by_cases h2' : n ≤ 120
  rotate_left
  · have Q := Lib.hid (show tableB first xs = false from table_no fun T => by have := T.len1; have := HL.out; omega)
    go_enter Tryz.func84, Tryz.ntmps84
    go_wp2_with (first | (go_at_call 85; refine (spec_l01In_any _ _ _ _).mono ?_; rintro e w' ⟨rfl, rfl⟩))
    go_ret
    exact ⟨by rw [Q.out]; rfl, hbw⟩
  by_cases h1 : inR first 0 100 = true
  rotate_left
  · have h1' : inR first 0 100 = false := by simpa using h1
    have Q := Lib.hid (show tableB first xs = false from table_no fun T => by have := inR_mk (hi := 100) ⟨T.first0, T.first1⟩; rw [h1'] at this; cases this)
    clear h1
    go_enter Tryz.func84, Tryz.ntmps84
    go_wp2_with (first | (go_at_call 85; refine (spec_l01In_any _ _ _ _).mono ?_; rintro e w' ⟨rfl, rfl⟩))
    go_ret
    exact ⟨by rw [Q.out]; rfl, hbw⟩
  obtain ⟨f1, f2⟩ := inR_true.1 h1
  obtain ⟨ad, rfl, had, hc0⟩ := HT.out.at_ (k := 0) (by omega)
  rw [add_zero_at] at hc0
  have hadb : ad.block < w.heap.size + 1 := by simpa using had
  by_cases h3 : inR (lv xs 0) 1 1000000 = true
  rotate_left
  · have h3' : inR (lv xs 0) 1 1000000 = false := by simpa using h3
    have Q := Lib.hid (show tableB first xs = false from table_no fun T => by have := inR_mk (hi := 1000000) ⟨T.pos 0 (by have := HL.out; omega), T.most 0⟩; rw [h3'] at this; cases this)
    clear h3
    go_enter Tryz.func84, Tryz.ntmps84
    go_wp2_with (first | (go_at_call 85; refine (spec_l01In_any _ _ _ _).mono ?_; rintro e w' ⟨rfl, rfl⟩))
    go_ret
    exact ⟨by rw [Q.out]; rfl, hbw⟩
  obtain ⟨m, hm⟩ : ∃ m : Nat, n = m + 1 := ⟨n - 1, by omega⟩
  have hmi : (n : Int) - 1 = (m : Int) := by omega
  have HM := Lib.hid hm; clear hm
  have hmn : m < n := by have := HM.out; omega
  obtain ⟨ad', had', had2, hcm⟩ := HT.out.at_ (k := m) hmn
  injection had' with had'; subst had'
  by_cases h4 : lv xs m = 0
  rotate_left
  · have Q := Lib.hid (show tableB first xs = false from table_no fun T => h4 (T.zero m (by have := HL.out; have := HM.out; omega)))
    go_enter Tryz.func84, Tryz.ntmps84
    go_wp2_with (first | (go_at_call 85; refine (spec_l01In_any _ _ _ _).mono ?_; rintro e w' ⟨rfl, rfl⟩))
    go_ret
    exact ⟨by rw [Q.out]; rfl, hbw⟩
  have H4 := Lib.hid h4
  rw [h4] at hcm
  clear h4
  by_cases h5 : first + (n : Int) - 1 ≤ 150
  rotate_left
  · have Q := Lib.hid (show tableB first xs = false from table_no fun T => h5 (by have := T.top; rw [HL.out] at this; exact this))
    go_enter Tryz.func84, Tryz.ntmps84
    go_wp2_with (first | (go_at_call 85; refine (spec_l01In_any _ _ _ _).mono ?_; rintro e w' ⟨rfl, rfl⟩))
    go_ret
    exact ⟨by rw [Q.out]; rfl, hbw⟩
  have QY := Lib.hid (fun h6 => table_yes (first := first) HL.out h1 ⟨h2, h2'⟩ (inR_true.1 h3) (by rw [show n - 1 = m by have := HM.out; omega]; exact H4.out) h5 h6)
  go_enter Tryz.func84, Tryz.ntmps84
  go_wp2_with (first | (go_at_call 85; refine (spec_l01In_any _ _ _ _).mono ?_; rintro e w' ⟨rfl, rfl⟩))
  go_loopw [4] (fun i wr => ∃ k : Nat, 1 ≤ k ∧ k ≤ n ∧ i = .int .i64 k ∧ Hid (∀ i : Nat, 1 ≤ i → i < k → lv xs i ≤ lv xs (i - 1) ∧ (i + 1 < n → 1 ≤ lv xs i)) ∧ Below (w.heap.size + 1) (w.alloc (.cells #[.int .i64 first, .slice (some ad) n cap] 26)) wr) (fun i _ => n - (intOf i).toNat)
  case atStart => exact ⟨1, by omega, by omega, rfl, Lib.hid (fun i h h' => by omega), Below.refl _ _⟩
  case round =>
    obtain ⟨k, hk1, hk, rfl, HA, hb⟩ := hrel
    have hbb : Below w.heap.size w wr := hbw.trans (hb.mono (by omega))
    have b0 : wr.cell? ⟨w.heap.size, 0, none⟩ = some (.int .i64 first) := (HB.out.below hb (by omega)).cell 0
    have b1 : wr.cell? ⟨w.heap.size, 1, none⟩ = some (.slice (some ad) n cap) := (HB.out.below hb (by omega)).cell 1
    by_cases hlt : k < n
    rotate_left
    · have hkn : k = n := by omega
      subst hkn
      have Q := Lib.hid (QY.out HA.out)
      go_wp2
      go_ret
      exact ⟨by rw [Q.out]; rfl, hbb⟩
    obtain ⟨p, hp⟩ : ∃ p, k = p + 1 := ⟨k - 1, by omega⟩
    subst hp
    obtain ⟨ad1, had1, _, hck⟩ := HT.out.at_ (k := p + 1) hlt
    injection had1 with had1; subst had1
    obtain ⟨ad2, had2', _, hcp⟩ := HT.out.at_ (k := p) (by omega)
    injection had2' with had2'; subst had2'
    have hck2 := (hb.cell (p := ad.add (p + 1)) (by rw [block_of_add]; omega)).trans hck
    have hcp2 := (hb.cell (p := ad.add p) (by rw [block_of_add]; omega)).trans hcp
    rw [show ad.add (p + 1) = ⟨ad.block, ad.off + (p + 1), none⟩ from by simp [Addr.add]] at hck2
    clear hck hcp
    have d0 := fun y : Past wr => Past.cell b1 y
    have d1 := fun y : Past wr => Past.cell hck2 y
    have d2 := fun y : Past wr => Past.cell hcp2 y
    have hpi : ((p : Int) + 1 - 1) = (p : Int) := by omega
    by_cases ha : lv xs (p + 1) ≤ lv xs p
    rotate_left
    · have Q := Lib.hid (show tableB first xs = false from table_no fun T => ha (T.anti p))
      have hd : decide (lv xs p < lv xs (p + 1)) = true := by simp; omega
      go_wp2
      refine wp_region_past (by kernel_rfl) (by kernel_rfl) ?_
      repeat (go_big_quiet_step (fail))
      refine wpQuiet_nil ?_
      rintro _ ⟨y, rfl⟩
      go_wp2
      go_ret
      exact ⟨by rw [Q.out]; rfl, hbb.trans (y.2.mono hbb.size)⟩
    have hd : decide (lv xs p < lv xs (p + 1)) = false := by simp; omega
    by_cases hb1 : p + 1 < m
    · have he : decide (p + 1 < m) = true := by simp; omega
      have he2 : decide ((p : Int) + 1 < (m : Int)) = true := by simp; omega
      by_cases hc : 1 ≤ lv xs (p + 1)
      · have hf2 : decide (lv xs (p + 1) < 1) = false := by simp; omega
        go_wp2
        refine wp_region_past (by kernel_rfl) (by kernel_rfl) ?_
        repeat (go_big_quiet_step (fail))
        refine wpQuiet_nil ?_
        rintro _ ⟨y, rfl⟩
        go_wp2
        go_roundw
        case rel => exact ⟨p + 2, by omega, by omega, by go_num, Lib.hid (fun i h h' => by
          by_cases e : i = p + 1
          · subst e; exact ⟨ha, fun _ => hc⟩
          · exact HA.out i h (by omega)), hb.trans (y.2.mono (by have := hb.size; simp at this; omega))⟩
        case measure => simp [intOf]; omega
      · have Q := Lib.hid (show tableB first xs = false from table_no fun T => hc (T.pos (p + 1) (by have := HL.out; have := HM.out; omega)))
        have hf2 : decide (lv xs (p + 1) < 1) = true := by simp; omega
        go_wp2
        refine wp_region_past (by kernel_rfl) (by kernel_rfl) ?_
        repeat (go_big_quiet_step (fail))
        refine wpQuiet_nil ?_
        rintro _ ⟨y, rfl⟩
        go_wp2
        go_ret
        exact ⟨by rw [Q.out]; rfl, hbb.trans (y.2.mono hbb.size)⟩
    · have he : decide (p + 1 < m) = false := by simp; omega
      have he2 : decide ((p : Int) + 1 < (m : Int)) = false := by simp; omega
      go_wp2
      refine wp_region_past (by kernel_rfl) (by kernel_rfl) ?_
      repeat (go_big_quiet_step (fail))
      refine wpQuiet_nil ?_
      rintro _ ⟨y, rfl⟩
      go_wp2
      go_roundw
      case rel => exact ⟨p + 2, by omega, by omega, by go_num, Lib.hid (fun i h h' => by
          by_cases e : i = p + 1
          · subst e; exact ⟨ha, fun h9 => by have := HM.out; omega⟩
          · exact HA.out i h (by omega)), hb.trans (y.2.mono (by have := hb.size; simp at this; omega))⟩
      case measure => simp [intOf]; omega
end Go.Proofs.YtbjdbpdgacfcpaaGreat
end

/- Contracts of functions of the library, laid at this program by the kit. -/
section
namespace Go.Proofs
open Go.Shelf
def Tryz.lays134_ren : Go.Shelf.Ren := ⟨fun | 134 => 198 | 129 => 203 | n => n, fun | 53 => 61 | 3 => 3 | 4 => 4 | 46 => 121 | 5 => 5 | 9 => 9 | n => n, fun | n => n⟩
theorem Tryz.lays134 : Go.Proofs.Lays.n134 Tryz.prog Tryz.lays134_ren := {
  mixed := by kernel_rfl
  f129 := Tryz.func203.trans (congrArg some (by kernel_rfl))
  f134 := Tryz.func198.trans (congrArg some (by kernel_rfl))
  t3 := Tryz.underlying3
  a3 := Tryz.isAgg3
  z3 := Tryz.sizeOf3
  v3 := Tryz.zeroValue3
  t4 := Tryz.underlying4
  a4 := Tryz.isAgg4
  z4 := Tryz.sizeOf4
  v4 := Tryz.zeroValue4
  t5 := Tryz.underlying5
  a5 := Tryz.isAgg5
  z5 := Tryz.sizeOf5
  v5 := Tryz.zeroValue5
  t9 := Tryz.underlying9
  a9 := Tryz.isAgg9
  z9 := Tryz.sizeOf9
  v9 := Tryz.zeroValue9
  t46 := Tryz.underlying121
  a46 := Tryz.isAgg121
  z46 := Tryz.sizeOf121
  v46 := Tryz.zeroValue121
  t53 := Tryz.underlying61
  a53 := Tryz.isAgg61
  z53 := Tryz.sizeOf61
  v53 := Tryz.zeroValue61 }
/-- bits.LeadingZeros64: "LeadingZeros64 returns the number of leading zero bits in x; the result is 64 for x == 0.": IT RETURNS '64 - Lib.bitLen x'; the world is as it was. ITS CALLEE bits.Len64 IS MET BY ITS OWN CONTRACT OFF THE SHELF (lay that first): entered in place it sends the kernel out of memory. (LAID: no walk: one application.) -/
theorem Tryz.bits_LeadingZeros64 (x : Int) (w : World) (h0 : 0 ≤ x) (h1 : x ≤ 18446744073709551615) :
    Calls Tryz.prog 198 #[.int .u64 x] w fun e w' => e = .returned (.int .i64 (64 - (Lib.bitLen x.toNat : Int))) ∧ w' = w := Any.bits_LeadingZeros64 Tryz.lays134 x w h0 h1
def Tryz.lays264_ren : Go.Shelf.Ren := ⟨fun | 264 => 191 | n => n, fun | 53 => 61 | 46 => 121 | n => n, fun | n => n⟩
theorem Tryz.lays264 : Go.Proofs.Lays.n264 Tryz.prog Tryz.lays264_ren := {
  mixed := by kernel_rfl
  f264 := Tryz.func191.trans (congrArg some (by kernel_rfl))
  t46 := Tryz.underlying121
  a46 := Tryz.isAgg121
  z46 := Tryz.sizeOf121
  v46 := Tryz.zeroValue121
  t53 := Tryz.underlying61
  a53 := Tryz.isAgg61
  z53 := Tryz.sizeOf61
  v53 := Tryz.zeroValue61 }
open Go.RowKit Go.Lib in
theorem Tryz.bits_Mul64 (x y : Nat) (hx : x < 18446744073709551616) (hy : y < 18446744073709551616) (w : World) :
    Calls Tryz.prog 191 #[.int .u64 x, .int .u64 y] w fun e w' => e = .returned (.tuple #[.int .u64 ((x * y / 18446744073709551616 : Nat) : Int), .int .u64 ((x * y % 18446744073709551616 : Nat) : Int)]) ∧ w' = w := Any.bits_Mul64 Tryz.lays264 x y hx hy w
end Go.Proofs
end

/- The arithmetic of a long division of two words by one: plain facts on numbers. No condition. -/
section
namespace Go.Proofs.YtbjdbpdgacfcpaaGreat
/-! ### a long division by two digits: one digit -/
theorem mul_le_left {a b c : Int} (h : a ≤ b) (hc : 0 ≤ c) : a * c ≤ b * c := Int.mul_le_mul_of_nonneg_right h hc
/-- the digit is too great -/
theorem digit_great {u d y1 y0 q r : Int} (h1 : q * y1 + r = u) (ht : 4294967296 ≤ q ∨ 4294967296 * r + d < q * y0) (hu : u < y1 * 4294967296 + y0) (hd : 0 ≤ d ∧ d < 4294967296) (hy1 : 0 ≤ y1) (hy0 : 0 ≤ y0) :
    4294967296 * u + d < q * y1 * 4294967296 + q * y0 := by
  rcases ht with ht | ht
  · have e1 := mul_le_left ht hy1
    have e0 := mul_le_left ht hy0
    omega
  · omega
/-- the digit is not too great -/
theorem digit_fit {u d y1 y0 q r : Int} (h1 : q * y1 + r = u) (ht : ¬ (4294967296 * r + d < q * y0)) : q * y1 * 4294967296 + q * y0 ≤ 4294967296 * u + d := by omega
theorem digit_break {u d y1 y0 q r : Int} (h1 : q * y1 + r = u) (hr : 4294967296 ≤ r) (hu : u < y1 * 4294967296 + y0) (hd : 0 ≤ d) (hy1 : 1 ≤ y1) (hy0 : 0 ≤ y0 ∧ y0 < 4294967296) : q * y1 * 4294967296 + q * y0 ≤ 4294967296 * u + d := by
  have hq : q < 4294967296 := by
    rcases Int.lt_or_le q 4294967296 with h | h
    · exact h
    · have := mul_le_left h (by omega : 0 ≤ y1)
      omega
  have := mul_le_left (show q ≤ 4294967296 by omega) hy0.1
  omega
theorem digit_down {y1 q r u : Int} (h1 : q * y1 + r = u) : (q - 1) * y1 + (r + y1) = u := by rw [Int.sub_mul]; omega
theorem digit_next {u d y1 y0 q : Int} (h : 4294967296 * u + d < q * y1 * 4294967296 + q * y0) : 4294967296 * u + d < (q - 1) * y1 * 4294967296 + (q - 1) * y0 + (y1 * 4294967296 + y0) := by
  rw [Int.sub_mul q 1 y1, Int.sub_mul q 1 y0]; omega
theorem digit_pos {u d y1 y0 q : Int} (h : 4294967296 * u + d < q * y1 * 4294967296 + q * y0) (hu : 0 ≤ u) (hd : 0 ≤ d) (hy1 : 0 ≤ y1) (hy0 : 0 ≤ y0) : 1 ≤ q := by
  rcases Int.lt_or_le q 1 with h1 | h1
  · have e1 := mul_le_left (show q ≤ 0 by omega) hy1
    have e0 := mul_le_left (show q ≤ 0 by omega) hy0
    omega
  · exact h1
theorem digit_lt {u d y1 y0 q : Int} (h : q * y1 * 4294967296 + q * y0 ≤ 4294967296 * u + d) (hu : u < y1 * 4294967296 + y0) (hd : d < 4294967296) (hy1 : 0 ≤ y1) (hy0 : 0 ≤ y0) : q < 4294967296 := by
  rcases Int.lt_or_le q 4294967296 with h1 | h1
  · exact h1
  · have e1 := mul_le_left h1 hy1
    have e0 := mul_le_left h1 hy0
    omega
/-- the first guess -/
theorem digit_first {u d y1 y0 : Int} (hy1 : 1 ≤ y1) (hy0 : 0 ≤ y0) (hu : 0 ≤ u) (hd : d < 4294967296) :
    u / y1 * y1 + (u - u / y1 * y1) = u ∧ 0 ≤ u - u / y1 * y1 ∧ u - u / y1 * y1 < y1 ∧ 0 ≤ u / y1 ∧
    4294967296 * u + d < u / y1 * y1 * 4294967296 + u / y1 * y0 + (y1 * 4294967296 + y0) := by
  have e := Int.mul_ediv_add_emod u y1
  rw [Int.mul_comm] at e
  have h1 := Int.emod_nonneg u (by omega : y1 ≠ 0)
  have h2 := Int.emod_lt_of_pos u (by omega : 0 < y1)
  have h3 := Int.ediv_nonneg hu (by omega : 0 ≤ y1)
  have h4 := Int.mul_nonneg h3 hy0
  omega
theorem wrap_rest {a b c v : Int} (h : v = a + b - c) (h0 : 0 ≤ v ∧ v < 18446744073709551616) : IntKind.u64.wrap (IntKind.u64.wrap (IntKind.u64.wrap a + b) - IntKind.u64.wrap c) = v := by
  simp only [IntKind.wrap_u64]; omega
/-- the whole division: n * p = u * 2^64 + m, digits q1, q0, rest r -/
theorem div_whole {n y p u m q1 q0 v r : Int} (hp : 1 ≤ p) (hn : n * p = u * 18446744073709551616 + m) (h1 : u * 4294967296 + m / 4294967296 = q1 * (y * p) + v) (h0 : v * 4294967296 + m % 4294967296 = q0 * (y * p) + r) (hr : 0 ≤ r ∧ r < y * p) (hy : 1 ≤ y) :
    q1 * 4294967296 + q0 = n / y ∧ r / p = n % y := by
  have e : n * p = (q1 * 4294967296 + q0) * (y * p) + r := by
    have hm := Int.mul_ediv_add_emod m 4294967296
    rw [Int.add_mul, Int.mul_right_comm q1]
    omega
  have e2 : r = (n - (q1 * 4294967296 + q0) * y) * p := by
    rw [Int.sub_mul, Int.mul_assoc]; omega
  have h3 : r / p = n - (q1 * 4294967296 + q0) * y := by rw [e2, Int.mul_ediv_cancel _ (by omega)]
  generalize hQ : q1 * 4294967296 + q0 = Q at *
  have h5 : 0 ≤ n - Q * y := by rw [← h3]; exact Int.ediv_nonneg hr.1 (by omega)
  have h6 : n - Q * y < y := by
    rw [← h3]; exact Int.ediv_lt_of_lt_mul (by omega) hr.2
  have h7 : n / y = Q := by
    have h8 : n = y * Q + (n - Q * y) := by rw [Int.mul_comm y]; omega
    rw [h8, Int.add_comm, Int.add_mul_ediv_left _ _ (by omega), Int.ediv_eq_zero_of_lt h5 h6]; omega
  refine ⟨h7.symm, ?_⟩
  have h9 := Int.mul_ediv_add_emod n y
  rw [h7] at h9
  rw [h3, Int.mul_comm Q]; omega
theorem norm_facts {y : Nat} (h1 : 1 ≤ y) (h2 : y < 18446744073709551616) : ∃ s : Nat, s = 64 - Lib.bitLen y ∧ s ≤ 63 ∧ Lib.bitLen y ≤ 64 ∧ 9223372036854775808 ≤ y * 2 ^ s ∧ y * 2 ^ s < 18446744073709551616 := by
  obtain ⟨a, b, c⟩ := Lib.bitLenAux_bounds 64 y h2 (by omega)
  have hL : Lib.bitLen y ≤ 64 := Lib.bitLen_le y 64 (Nat.le_refl _) h2
  have hu : Lib.bitLenAux 64 y = Lib.bitLen y := rfl
  rw [hu] at a b c
  refine ⟨64 - Lib.bitLen y, rfl, by omega, hL, ?_, ?_⟩
  · have : 2 ^ (Lib.bitLen y - 1) * 2 ^ (64 - Lib.bitLen y) ≤ y * 2 ^ (64 - Lib.bitLen y) := Nat.mul_le_mul_right _ b
    rw [← Nat.pow_add, show Lib.bitLen y - 1 + (64 - Lib.bitLen y) = 63 by omega] at this
    exact this
  · have : y * 2 ^ (64 - Lib.bitLen y) < 2 ^ Lib.bitLen y * 2 ^ (64 - Lib.bitLen y) := Nat.mul_lt_mul_of_pos_right c (Nat.two_pow_pos _)
    rw [← Nat.pow_add, show Lib.bitLen y + (64 - Lib.bitLen y) = 64 by omega] at this
    exact this
theorem high_or {hi lo s : Nat} (hs : s ≤ 63) (hlo : lo < 18446744073709551616) : (hi * 2 ^ s) ||| (lo / 2 ^ (64 - s)) = hi * 2 ^ s + lo / 2 ^ (64 - s) ∧ lo / 2 ^ (64 - s) < 18446744073709551616 := by
  have h : lo / 2 ^ (64 - s) < 2 ^ s := by
    apply Nat.div_lt_of_lt_mul
    rw [← Nat.pow_add, show 64 - s + s = 64 by omega]; exact hlo
  refine ⟨?_, by have := Nat.div_le_self lo (2 ^ (64 - s)); omega⟩
  have := Nat.two_pow_add_eq_or_of_lt h hi
  rw [Nat.mul_comm (2 ^ s) hi] at this
  exact this.symm
/-- the shifted dividend -/
theorem shift_whole {hi lo s : Nat} (hs : s ≤ 63) : (hi * 18446744073709551616 + lo) * 2 ^ s = (hi * 2 ^ s + lo / 2 ^ (64 - s)) * 18446744073709551616 + lo * 2 ^ s % 18446744073709551616 := by
  have e : lo * 2 ^ s / 18446744073709551616 = lo / 2 ^ (64 - s) := by
    have : (18446744073709551616 : Nat) = 2 ^ (64 - s) * 2 ^ s := by rw [← Nat.pow_add, show 64 - s + s = 64 by omega]
    rw [this, Nat.mul_div_mul_right _ _ (Nat.two_pow_pos _)]
  have e2 := Nat.div_add_mod (lo * 2 ^ s) 18446744073709551616
  rw [e] at e2
  rw [Nat.add_mul, Nat.add_mul, Nat.mul_right_comm]
  omega
theorem high_lt {hi lo y s : Nat} (hs : s ≤ 63) (h : hi < y) (hlo : lo < 18446744073709551616) : hi * 2 ^ s + lo / 2 ^ (64 - s) < y * 2 ^ s := by
  have h1 : lo / 2 ^ (64 - s) < 2 ^ s := by
    apply Nat.div_lt_of_lt_mul
    rw [← Nat.pow_add, show 64 - s + s = 64 by omega]; exact hlo
  have h2 : (hi + 1) * 2 ^ s ≤ y * 2 ^ s := Nat.mul_le_mul_right _ h
  rw [Nat.add_mul] at h2
  omega
end Go.Proofs.YtbjdbpdgacfcpaaGreat
end

/- A product divided by a number: the library's long division, the program's and the reference's functions. -/
section
namespace Go.Proofs.YtbjdbpdgacfcpaaGreat
open Go.RowKit Go.BigFrame

theorem LeadingZeros64_at (y : Int) (s : Nat) (w : World) (h0 : 0 ≤ y) (h1 : y ≤ 18446744073709551615) (hs : s + Lib.bitLen y.toNat = 64) :
    Calls Tryz.prog 198 #[.int .u64 y] w fun e w' => e = .returned (.int .i64 s) ∧ w = w' :=
  (Tryz.bits_LeadingZeros64 y w h0 h1).mono fun e w' h => ⟨by rw [h.1]; congr 2; omega, h.2.symm⟩

/-- where a digit of the quotient stands: it is q or less -/
def Dig (u d y1 y0 q r : Int) : Prop := q * y1 + r = u ∧ 0 ≤ r ∧ r < 4294967296 ∧ 0 ≤ q ∧ 4294967296 * u + d < q * y1 * 4294967296 + q * y0 + (y1 * 4294967296 + y0)
/-- it is q -/
def DigIs (u d y1 y0 q : Int) : Prop := 0 ≤ q ∧ q < 4294967296 ∧ q * y1 * 4294967296 + q * y0 ≤ 4294967296 * u + d ∧ 4294967296 * u + d < q * y1 * 4294967296 + q * y0 + (y1 * 4294967296 + y0)
theorem DigIs.rest {u d y1 y0 q Y : Int} (h : DigIs u d y1 y0 q) (hY : Y = y1 * 4294967296 + y0) : ∃ v, v = u * 4294967296 + d - q * Y ∧ 0 ≤ v ∧ v < Y ∧ u * 4294967296 + d = q * Y + v := by
  obtain ⟨_, _, h1, h2⟩ := h
  subst hY
  have e : q * (y1 * 4294967296 + y0) = q * y1 * 4294967296 + q * y0 := by rw [Int.mul_add, Int.mul_assoc]
  exact ⟨_, rfl, by omega, by omega, by omega⟩

theorem div_setup (hn ln yn : Nat) (h0 : 0 < hn) (hl : ln < 18446744073709551616) (hy : hn < yn) (hy2 : yn < 18446744073709551616) : ∃ (s t : Nat) (P T Y H L M U y1 y0 m1 m0 : Int),
    s + Lib.bitLen yn = 64 ∧ s ≤ 63 ∧ 64 - (s : Int) = (t : Int) ∧ t ≤ 64 ∧ (2 : Int) ^ s = P ∧ (2 : Int) ^ t = T ∧ 1 ≤ P ∧ 1 ≤ T ∧ (yn : Int) * P = Y ∧ (hn : Int) * P = H ∧ (ln : Int) / T = L ∧ IntKind.u64.wrap ((ln : Int) * P) = M ∧
    bits .or .u64 H L = U ∧ Y / 4294967296 = y1 ∧ bits .and .u64 Y 4294967295 = y0 ∧ M / 4294967296 = m1 ∧ bits .and .u64 M 4294967295 = m0 ∧
    (9223372036854775808 ≤ Y ∧ Y < 18446744073709551616 ∧ Y = y1 * 4294967296 + y0) ∧ (2147483648 ≤ y1 ∧ y1 < 4294967296) ∧ (0 ≤ y0 ∧ y0 < 4294967296) ∧ (0 ≤ H ∧ H < 18446744073709551616) ∧ (0 ≤ L ∧ L < 18446744073709551616) ∧ (0 ≤ M ∧ M < 18446744073709551616) ∧ (0 ≤ U ∧ U < Y) ∧ (0 ≤ m1 ∧ m1 < 4294967296) ∧ (0 ≤ m0 ∧ m0 < 4294967296) ∧
    ((hn : Int) * 18446744073709551616 + (ln : Int)) * P = U * 18446744073709551616 + M ∧ m1 = M / 4294967296 ∧ m0 = M % 4294967296 := by
  obtain ⟨s, hs, hs63, hbl, hY1, hY2⟩ := norm_facts (y := yn) (by omega) hy2
  obtain ⟨t, ht⟩ : ∃ t, 64 - s = t := ⟨_, rfl⟩
  have hor := high_or (hi := hn) (lo := ln) (s := s) hs63 hl
  have hwhole := shift_whole (hi := hn) (lo := ln) (s := s) hs63
  have hlt := high_lt (hi := hn) (lo := ln) (s := s) hs63 hy hl
  rw [ht] at hor hwhole hlt
  have hp : 1 ≤ 2 ^ s := Nat.one_le_two_pow
  have hq : 1 ≤ 2 ^ t := Nat.one_le_two_pow
  have hpI : (2 : Int) ^ s = ((2 ^ s : Nat) : Int) := by simp
  have hqI : (2 : Int) ^ t = ((2 ^ t : Nat) : Int) := by simp
  generalize (2 : Nat) ^ s = p at *
  generalize (2 : Nat) ^ t = q at *
  obtain ⟨Lq, hLq⟩ : ∃ x, ln / q = x := ⟨_, rfl⟩
  obtain ⟨Yn, hYn⟩ : ∃ x, yn * p = x := ⟨_, rfl⟩
  obtain ⟨Hn, hHn⟩ : ∃ x, hn * p = x := ⟨_, rfl⟩
  obtain ⟨Mn, hMn⟩ : ∃ x, ln * p = x := ⟨_, rfl⟩
  rw [hLq, hHn] at hor hlt hwhole
  rw [hYn] at hY1 hY2 hlt
  rw [hMn] at hwhole
  refine ⟨s, t, p, q, (Yn : Nat), (Hn : Nat), (Lq : Nat), (Mn % 18446744073709551616 : Nat), (Hn + Lq : Nat), (Yn / 4294967296 : Nat), (Yn % 4294967296 : Nat), (Mn % 18446744073709551616 / 4294967296 : Nat), (Mn % 18446744073709551616 % 4294967296 : Nat),
    by omega, hs63, by omega, by omega, hpI, hqI, by omega, by omega, by rw [← hYn]; simp, by rw [← hHn]; simp, by rw [← hLq]; simp, ?_, ?_, by simp, ?_, by simp, ?_, ?_, ?_, ?_, ?_, ?_, ?_, ?_, ?_, ?_, ?_, by simp, by simp⟩
  · rw [IntKind.wrap_u64, ← Int.natCast_mul, hMn]; omega
  · rw [bits_or_u64_nat _ _ (by omega) (by omega), hor.1]
  · have := bits_and_u64_nat Yn 4294967295 (by omega) (by omega)
    have e : Yn &&& 4294967295 = Yn % 4294967296 := Nat.and_two_pow_sub_one_eq_mod _ 32
    rw [e] at this; exact this
  · have := bits_and_u64_nat (Mn % 18446744073709551616) 4294967295 (by omega) (by omega)
    have e : Mn % 18446744073709551616 &&& 4294967295 = Mn % 18446744073709551616 % 4294967296 := Nat.and_two_pow_sub_one_eq_mod _ 32
    rw [e] at this; exact this
  · refine ⟨by omega, by omega, by omega⟩
  · omega
  · omega
  · omega
  · omega
  · omega
  · omega
  · omega
  · omega
  · have := congrArg (Int.ofNat) hwhole
    simpa using this

theorem div_setupI (hi lo y : Int) (h0 : 0 < hi) (hl : 0 ≤ lo ∧ lo < 18446744073709551616) (hy : hi < y) (hy2 : y < 18446744073709551616) : ∃ (s t : Nat) (P T Y H L M U y1 y0 m1 m0 : Int),
    s + Lib.bitLen y.toNat = 64 ∧ s ≤ 63 ∧ 64 - (s : Int) = (t : Int) ∧ t ≤ 64 ∧ (2 : Int) ^ s = P ∧ (2 : Int) ^ t = T ∧ 1 ≤ P ∧ 1 ≤ T ∧ y * P = Y ∧ hi * P = H ∧ lo / T = L ∧ IntKind.u64.wrap (lo * P) = M ∧
    bits .or .u64 H L = U ∧ Y / 4294967296 = y1 ∧ bits .and .u64 Y 4294967295 = y0 ∧ M / 4294967296 = m1 ∧ bits .and .u64 M 4294967295 = m0 ∧
    (9223372036854775808 ≤ Y ∧ Y < 18446744073709551616 ∧ Y = y1 * 4294967296 + y0) ∧ (2147483648 ≤ y1 ∧ y1 < 4294967296) ∧ (0 ≤ y0 ∧ y0 < 4294967296) ∧ (0 ≤ H ∧ H < 18446744073709551616) ∧ (0 ≤ L ∧ L < 18446744073709551616) ∧ (0 ≤ M ∧ M < 18446744073709551616) ∧ (0 ≤ U ∧ U < Y) ∧ (0 ≤ m1 ∧ m1 < 4294967296) ∧ (0 ≤ m0 ∧ m0 < 4294967296) ∧
    (hi * 18446744073709551616 + lo) * P = U * 18446744073709551616 + M ∧ m1 = M / 4294967296 ∧ m0 = M % 4294967296 := by
  obtain ⟨yn, rfl⟩ := Int.eq_ofNat_of_zero_le (show 0 ≤ y by omega)
  obtain ⟨hn, rfl⟩ := Int.eq_ofNat_of_zero_le (show 0 ≤ hi by omega)
  obtain ⟨ln, rfl⟩ := Int.eq_ofNat_of_zero_le hl.1
  rw [Int.toNat_natCast]
  exact div_setup hn ln yn (by omega) (by omega) (by omega) (by omega)


set_option maxHeartbeats 4000000 in
set_option maxRecDepth 200000 in
theorem Div64_at (hi lo y : Int) (w : World) (h0 : 0 ≤ hi) (hlo : 0 ≤ lo ∧ lo < 18446744073709551616) (hy : hi < y) (hy2 : y < 18446744073709551616) :
    Calls Tryz.prog 192 #[.int .u64 hi, .int .u64 lo, .int .u64 y] w fun e w' => e = .returned (.tuple #[.int .u64 ((hi * 18446744073709551616 + lo) / y), .int .u64 ((hi * 18446744073709551616 + lo) % y)]) ∧ Below w.heap.size w w' := by
  obtain ⟨l0, l1⟩ := hlo
  have hyz : ¬ y = 0 := by omega
  by_cases hz : hi = 0
  · subst hz
    have Q := Lib.hid (show (0 : Int) * 18446744073709551616 + lo = lo by omega)
    go_enter Tryz.func192, Tryz.ntmps192
    go_wp2
    refine wp_region_past (by kernel_rfl) (by kernel_rfl) ?_
    repeat (go_big_quiet_step (fail))
    refine wpQuiet_nil ?_
    rintro _ ⟨y, rfl⟩
    go_wp2
    go_ret2
    rw [Q.out]
    exact ⟨rfl, y.2⟩
  obtain ⟨s, t, P, T, Y, H, L, M, U, y1, y0, m1, m0, hs, hs63, ht, ht64, hP2, hT2, hP, hT, hYp, hHp, hLT, hM, hU, hY1, hY0, hm1, hm0, ⟨Ya, Yb, hYY⟩, ⟨y1a, y1b⟩, ⟨y0a, y0b⟩, ⟨Ha, Hb⟩, ⟨La, Lb⟩, ⟨Ma, Mb⟩, ⟨Ua, Ub⟩, ⟨m1a, m1b⟩, ⟨m0a, m0b⟩, hN, hM1, hM0⟩ := div_setupI hi lo y (by omega) (by omega) (by omega) (by omega)
  have HS := Lib.hid hs; clear hs
  have HYY := Lib.hid hYY; clear hYY
  have HN := Lib.hid hN; clear hN
  have HM1 := Lib.hid hM1.symm; clear hM1
  have HM0 := Lib.hid hM0.symm; clear hM0
  have HYp := Lib.hid hYp
  have hUY : U < y1 * 4294967296 + y0 := by have := HYY.out; omega
  have hvY : ∀ v : Int, v < Y → v < y1 * 4294967296 + y0 := fun v h => by have := HYY.out; omega
  have HvY := Lib.hid hvY; clear hvY
  go_enter Tryz.func192, Tryz.ntmps192

  have HF1 := Lib.hid (digit_first (u := U) (d := m1) (y1 := y1) (y0 := y0) (by omega) (by omega) (by omega) (by omega))
  have hf := HF1.out; obtain ⟨_, f1, f2, f3, _⟩ := hf
  have hyz1 : ¬ y1 = 0 := by omega
  have fle : U / y1 * y1 ≤ U := by omega
  have fge : 0 ≤ U / y1 * y1 := Int.mul_nonneg f3 (by omega)
  have fq : U / y1 ≤ U := Int.ediv_le_self _ (by omega)
  go_wp2_with (first | (go_at_call 198; refine (LeadingZeros64_at _ s _ (by omega) (by omega) HS.out).mono ?_; rintro e w' ⟨rfl, rfl⟩))
  go_loop [15, 16] (fun a b => ∃ q r : Int, a = .int .u64 q ∧ b = .int .u64 r ∧ Dig U m1 y1 y0 q r) (fun _ b => (4294967296 - intOf b).toNat)
  case atStart => exact ⟨_, _, rfl, rfl, HF1.out.1, HF1.out.2.1, by omega, f3, HF1.out.2.2.2.2⟩
  case round =>
    clear f1 f2 f3 fle fge fq
    obtain ⟨q, r, rfl, rfl, hdig⟩ := hrel
    have HG := Lib.hid hdig
    obtain ⟨_, r1, r2, q1', _⟩ := hdig
    have hqy : 0 ≤ q * y0 := Int.mul_nonneg q1' (by omega)
    have hqU : q ≤ U := by have e9 := Int.mul_le_mul_of_nonneg_left (show 1 ≤ y1 by omega) q1'; rw [Int.mul_one] at e9; have e8 := HG.out.1; omega
    by_cases hq : 4294967296 ≤ q
    · have HGR := Lib.hid (digit_great (d := m1) (y0 := y0) HG.out.1 (.inl hq) (by omega) ⟨by omega, by omega⟩ (by omega) (by omega))
      have hqp : 1 ≤ q := digit_pos HGR.out (by omega) (by omega) (by omega) (by omega)
      have HDN := Lib.hid (digit_down HG.out.1)
      have HNX := Lib.hid (digit_next HGR.out)
      by_cases hbr : 4294967296 ≤ r + y1
      · have HBK := Lib.hid (digit_break (d := m1) (y0 := y0) HDN.out hbr (by omega) (by omega) (by omega) (by omega))
        have HD1 := Lib.hid (show DigIs U m1 y1 y0 (q - 1) from ⟨by omega, digit_lt HBK.out (by omega) (by omega) (by omega) (by omega), HBK.out, HNX.out⟩)
        obtain ⟨q1, hq1⟩ : ∃ q1, q - 1 = q1 := ⟨_, rfl⟩
        rw [hq1] at HD1
        have hd1 := HD1.out; obtain ⟨q1a, q1b, _, _⟩ := hd1
        obtain ⟨v, hv0, hv1, hv2, hv3⟩ := HD1.out.rest HYY.out
        have ev : IntKind.u64.wrap (IntKind.u64.wrap (IntKind.u64.wrap (U * 4294967296) + m1) - IntKind.u64.wrap (q1 * Y)) = v := wrap_rest hv0 (by omega)
        have HV := Lib.hid hv3; clear hv0 hv3
        have hvy1 := HvY.out v hv2
        have HF0 := Lib.hid (digit_first (u := v) (d := m0) (y1 := y1) (y0 := y0) (by omega) (by omega) (by omega) (by omega))
        have hf := HF0.out; obtain ⟨_, f1, f2, f3, _⟩ := hf
        have hyz1 : ¬ y1 = 0 := by omega
        have fle : v / y1 * y1 ≤ v := by omega
        have fge : 0 ≤ v / y1 * y1 := Int.mul_nonneg f3 (by omega)
        have fq : v / y1 ≤ v := Int.ediv_le_self _ (by omega)
        go_wp2
        go_loop [18, 16] (fun a b => ∃ q r : Int, a = .int .u64 q ∧ b = .int .u64 r ∧ Dig v m0 y1 y0 q r) (fun _ b => (4294967296 - intOf b).toNat)
        case atStart => exact ⟨_, _, rfl, rfl, HF0.out.1, HF0.out.2.1, by omega, f3, HF0.out.2.2.2.2⟩
        case round =>
          clear f1 f2 f3 fle fge fq
          obtain ⟨q, r, rfl, rfl, hdig⟩ := hrel
          have HG := Lib.hid hdig
          obtain ⟨_, r1, r2, q1', _⟩ := hdig
          have hqy : 0 ≤ q * y0 := Int.mul_nonneg q1' (by omega)
          have hqU : q ≤ v := by have e9 := Int.mul_le_mul_of_nonneg_left (show 1 ≤ y1 by omega) q1'; rw [Int.mul_one] at e9; have e8 := HG.out.1; omega
          by_cases hq : 4294967296 ≤ q
          · have HGR := Lib.hid (digit_great (d := m0) (y0 := y0) HG.out.1 (.inl hq) (by omega) ⟨by omega, by omega⟩ (by omega) (by omega))
            have hqp : 1 ≤ q := digit_pos HGR.out (by omega) (by omega) (by omega) (by omega)
            have HDN := Lib.hid (digit_down HG.out.1)
            have HNX := Lib.hid (digit_next HGR.out)
            by_cases hbr : 4294967296 ≤ r + y1
            · have HBK := Lib.hid (digit_break (d := m0) (y0 := y0) HDN.out hbr (by omega) (by omega) (by omega) (by omega))
              have HD0 := Lib.hid (show DigIs v m0 y1 y0 (q - 1) from ⟨by omega, digit_lt HBK.out (by omega) (by omega) (by omega) (by omega), HBK.out, HNX.out⟩)
              obtain ⟨q0, hq0⟩ : ∃ q0, q - 1 = q0 := ⟨_, rfl⟩
              rw [hq0] at HD0
              have hd0 := HD0.out; obtain ⟨q0a, q0b, _, _⟩ := hd0
              obtain ⟨r0, hr0, hr1, hr2, hr3⟩ := HD0.out.rest HYY.out
              have HE0 := Lib.hid (div_whole (n := hi * 18446744073709551616 + lo) (y := y) (p := P) (u := U) (m := M) (q1 := q1) (q0 := q0) (v := v) (r := r0) hP HN.out (by rw [HYp.out, HM1.out]; exact HV.out) (by rw [HYp.out, HM0.out]; exact hr3) (by rw [HYp.out]; exact ⟨hr1, hr2⟩) (by omega))
              have ew : IntKind.u64.wrap (IntKind.u64.wrap (IntKind.u64.wrap (v * 4294967296) + m0) - IntKind.u64.wrap (q0 * Y)) = r0 := wrap_rest hr0 (by omega)
              clear hr0 hr3
              go_wp2
              go_ret2
              rw [← HE0.out.1, ← HE0.out.2]
              exact ⟨rfl, Below.refl _ _⟩
            · go_wp2
              go_round
              case rel => exact ⟨_, _, rfl, rfl, HDN.out, by omega, by omega, by omega, HNX.out⟩
              case measure => simp [intOf]; omega
          have hqy2 : q * y0 ≤ 4294967295 * 4294967295 := Int.mul_le_mul (by omega) (by omega) (by omega) (by omega)
          by_cases hc : 4294967296 * r + m0 < q * y0
          · have HGR := Lib.hid (digit_great (d := m0) (y0 := y0) HG.out.1 (.inr hc) (by omega) ⟨by omega, by omega⟩ (by omega) (by omega))
            have hqp : 1 ≤ q := digit_pos HGR.out (by omega) (by omega) (by omega) (by omega)
            have HDN := Lib.hid (digit_down HG.out.1)
            have HNX := Lib.hid (digit_next HGR.out)
            by_cases hbr : 4294967296 ≤ r + y1
            · have HBK := Lib.hid (digit_break (d := m0) (y0 := y0) HDN.out hbr (by omega) (by omega) (by omega) (by omega))
              have HD0 := Lib.hid (show DigIs v m0 y1 y0 (q - 1) from ⟨by omega, digit_lt HBK.out (by omega) (by omega) (by omega) (by omega), HBK.out, HNX.out⟩)
              obtain ⟨q0, hq0⟩ : ∃ q0, q - 1 = q0 := ⟨_, rfl⟩
              rw [hq0] at HD0
              have hd0 := HD0.out; obtain ⟨q0a, q0b, _, _⟩ := hd0
              obtain ⟨r0, hr0, hr1, hr2, hr3⟩ := HD0.out.rest HYY.out
              have HE0 := Lib.hid (div_whole (n := hi * 18446744073709551616 + lo) (y := y) (p := P) (u := U) (m := M) (q1 := q1) (q0 := q0) (v := v) (r := r0) hP HN.out (by rw [HYp.out, HM1.out]; exact HV.out) (by rw [HYp.out, HM0.out]; exact hr3) (by rw [HYp.out]; exact ⟨hr1, hr2⟩) (by omega))
              have ew : IntKind.u64.wrap (IntKind.u64.wrap (IntKind.u64.wrap (v * 4294967296) + m0) - IntKind.u64.wrap (q0 * Y)) = r0 := wrap_rest hr0 (by omega)
              clear hr0 hr3
              go_wp2
              go_ret2
              rw [← HE0.out.1, ← HE0.out.2]
              exact ⟨rfl, Below.refl _ _⟩
            · go_wp2
              go_round
              case rel => exact ⟨_, _, rfl, rfl, HDN.out, by omega, by omega, by omega, HNX.out⟩
              case measure => simp [intOf]; omega
          have HFT := Lib.hid (digit_fit (d := m0) (y0 := y0) HG.out.1 hc)
          have HD0 := Lib.hid (show DigIs v m0 y1 y0 q from ⟨q1', by omega, HFT.out, HG.out.2.2.2.2⟩)
          obtain ⟨q0, rfl⟩ : ∃ q0, q0 = q := ⟨_, rfl⟩
          have hd0 := HD0.out; obtain ⟨q0a, q0b, _, _⟩ := hd0
          obtain ⟨r0, hr0, hr1, hr2, hr3⟩ := HD0.out.rest HYY.out
          have HE0 := Lib.hid (div_whole (n := hi * 18446744073709551616 + lo) (y := y) (p := P) (u := U) (m := M) (q1 := q1) (q0 := q0) (v := v) (r := r0) hP HN.out (by rw [HYp.out, HM1.out]; exact HV.out) (by rw [HYp.out, HM0.out]; exact hr3) (by rw [HYp.out]; exact ⟨hr1, hr2⟩) (by omega))
          have ew : IntKind.u64.wrap (IntKind.u64.wrap (IntKind.u64.wrap (v * 4294967296) + m0) - IntKind.u64.wrap (q0 * Y)) = r0 := wrap_rest hr0 (by omega)
          clear hr0 hr3
          go_wp2
          go_ret2
          rw [← HE0.out.1, ← HE0.out.2]
          exact ⟨rfl, Below.refl _ _⟩
      · go_wp2
        go_round
        case rel => exact ⟨_, _, rfl, rfl, HDN.out, by omega, by omega, by omega, HNX.out⟩
        case measure => simp [intOf]; omega
    have hqy2 : q * y0 ≤ 4294967295 * 4294967295 := Int.mul_le_mul (by omega) (by omega) (by omega) (by omega)
    by_cases hc : 4294967296 * r + m1 < q * y0
    · have HGR := Lib.hid (digit_great (d := m1) (y0 := y0) HG.out.1 (.inr hc) (by omega) ⟨by omega, by omega⟩ (by omega) (by omega))
      have hqp : 1 ≤ q := digit_pos HGR.out (by omega) (by omega) (by omega) (by omega)
      have HDN := Lib.hid (digit_down HG.out.1)
      have HNX := Lib.hid (digit_next HGR.out)
      by_cases hbr : 4294967296 ≤ r + y1
      · have HBK := Lib.hid (digit_break (d := m1) (y0 := y0) HDN.out hbr (by omega) (by omega) (by omega) (by omega))
        have HD1 := Lib.hid (show DigIs U m1 y1 y0 (q - 1) from ⟨by omega, digit_lt HBK.out (by omega) (by omega) (by omega) (by omega), HBK.out, HNX.out⟩)
        obtain ⟨q1, hq1⟩ : ∃ q1, q - 1 = q1 := ⟨_, rfl⟩
        rw [hq1] at HD1
        have hd1 := HD1.out; obtain ⟨q1a, q1b, _, _⟩ := hd1
        obtain ⟨v, hv0, hv1, hv2, hv3⟩ := HD1.out.rest HYY.out
        have ev : IntKind.u64.wrap (IntKind.u64.wrap (IntKind.u64.wrap (U * 4294967296) + m1) - IntKind.u64.wrap (q1 * Y)) = v := wrap_rest hv0 (by omega)
        have HV := Lib.hid hv3; clear hv0 hv3
        have hvy1 := HvY.out v hv2
        have HF0 := Lib.hid (digit_first (u := v) (d := m0) (y1 := y1) (y0 := y0) (by omega) (by omega) (by omega) (by omega))
        have hf := HF0.out; obtain ⟨_, f1, f2, f3, _⟩ := hf
        have hyz1 : ¬ y1 = 0 := by omega
        have fle : v / y1 * y1 ≤ v := by omega
        have fge : 0 ≤ v / y1 * y1 := Int.mul_nonneg f3 (by omega)
        have fq : v / y1 ≤ v := Int.ediv_le_self _ (by omega)
        go_wp2
        go_loop [18, 16] (fun a b => ∃ q r : Int, a = .int .u64 q ∧ b = .int .u64 r ∧ Dig v m0 y1 y0 q r) (fun _ b => (4294967296 - intOf b).toNat)
        case atStart => exact ⟨_, _, rfl, rfl, HF0.out.1, HF0.out.2.1, by omega, f3, HF0.out.2.2.2.2⟩
        case round =>
          clear f1 f2 f3 fle fge fq
          obtain ⟨q, r, rfl, rfl, hdig⟩ := hrel
          have HG := Lib.hid hdig
          obtain ⟨_, r1, r2, q1', _⟩ := hdig
          have hqy : 0 ≤ q * y0 := Int.mul_nonneg q1' (by omega)
          have hqU : q ≤ v := by have e9 := Int.mul_le_mul_of_nonneg_left (show 1 ≤ y1 by omega) q1'; rw [Int.mul_one] at e9; have e8 := HG.out.1; omega
          by_cases hq : 4294967296 ≤ q
          · have HGR := Lib.hid (digit_great (d := m0) (y0 := y0) HG.out.1 (.inl hq) (by omega) ⟨by omega, by omega⟩ (by omega) (by omega))
            have hqp : 1 ≤ q := digit_pos HGR.out (by omega) (by omega) (by omega) (by omega)
            have HDN := Lib.hid (digit_down HG.out.1)
            have HNX := Lib.hid (digit_next HGR.out)
            by_cases hbr : 4294967296 ≤ r + y1
            · have HBK := Lib.hid (digit_break (d := m0) (y0 := y0) HDN.out hbr (by omega) (by omega) (by omega) (by omega))
              have HD0 := Lib.hid (show DigIs v m0 y1 y0 (q - 1) from ⟨by omega, digit_lt HBK.out (by omega) (by omega) (by omega) (by omega), HBK.out, HNX.out⟩)
              obtain ⟨q0, hq0⟩ : ∃ q0, q - 1 = q0 := ⟨_, rfl⟩
              rw [hq0] at HD0
              have hd0 := HD0.out; obtain ⟨q0a, q0b, _, _⟩ := hd0
              obtain ⟨r0, hr0, hr1, hr2, hr3⟩ := HD0.out.rest HYY.out
              have HE0 := Lib.hid (div_whole (n := hi * 18446744073709551616 + lo) (y := y) (p := P) (u := U) (m := M) (q1 := q1) (q0 := q0) (v := v) (r := r0) hP HN.out (by rw [HYp.out, HM1.out]; exact HV.out) (by rw [HYp.out, HM0.out]; exact hr3) (by rw [HYp.out]; exact ⟨hr1, hr2⟩) (by omega))
              have ew : IntKind.u64.wrap (IntKind.u64.wrap (IntKind.u64.wrap (v * 4294967296) + m0) - IntKind.u64.wrap (q0 * Y)) = r0 := wrap_rest hr0 (by omega)
              clear hr0 hr3
              go_wp2
              go_ret2
              rw [← HE0.out.1, ← HE0.out.2]
              exact ⟨rfl, Below.refl _ _⟩
            · go_wp2
              go_round
              case rel => exact ⟨_, _, rfl, rfl, HDN.out, by omega, by omega, by omega, HNX.out⟩
              case measure => simp [intOf]; omega
          have hqy2 : q * y0 ≤ 4294967295 * 4294967295 := Int.mul_le_mul (by omega) (by omega) (by omega) (by omega)
          by_cases hc : 4294967296 * r + m0 < q * y0
          · have HGR := Lib.hid (digit_great (d := m0) (y0 := y0) HG.out.1 (.inr hc) (by omega) ⟨by omega, by omega⟩ (by omega) (by omega))
            have hqp : 1 ≤ q := digit_pos HGR.out (by omega) (by omega) (by omega) (by omega)
            have HDN := Lib.hid (digit_down HG.out.1)
            have HNX := Lib.hid (digit_next HGR.out)
            by_cases hbr : 4294967296 ≤ r + y1
            · have HBK := Lib.hid (digit_break (d := m0) (y0 := y0) HDN.out hbr (by omega) (by omega) (by omega) (by omega))
              have HD0 := Lib.hid (show DigIs v m0 y1 y0 (q - 1) from ⟨by omega, digit_lt HBK.out (by omega) (by omega) (by omega) (by omega), HBK.out, HNX.out⟩)
              obtain ⟨q0, hq0⟩ : ∃ q0, q - 1 = q0 := ⟨_, rfl⟩
              rw [hq0] at HD0
              have hd0 := HD0.out; obtain ⟨q0a, q0b, _, _⟩ := hd0
              obtain ⟨r0, hr0, hr1, hr2, hr3⟩ := HD0.out.rest HYY.out
              have HE0 := Lib.hid (div_whole (n := hi * 18446744073709551616 + lo) (y := y) (p := P) (u := U) (m := M) (q1 := q1) (q0 := q0) (v := v) (r := r0) hP HN.out (by rw [HYp.out, HM1.out]; exact HV.out) (by rw [HYp.out, HM0.out]; exact hr3) (by rw [HYp.out]; exact ⟨hr1, hr2⟩) (by omega))
              have ew : IntKind.u64.wrap (IntKind.u64.wrap (IntKind.u64.wrap (v * 4294967296) + m0) - IntKind.u64.wrap (q0 * Y)) = r0 := wrap_rest hr0 (by omega)
              clear hr0 hr3
              go_wp2
              go_ret2
              rw [← HE0.out.1, ← HE0.out.2]
              exact ⟨rfl, Below.refl _ _⟩
            · go_wp2
              go_round
              case rel => exact ⟨_, _, rfl, rfl, HDN.out, by omega, by omega, by omega, HNX.out⟩
              case measure => simp [intOf]; omega
          have HFT := Lib.hid (digit_fit (d := m0) (y0 := y0) HG.out.1 hc)
          have HD0 := Lib.hid (show DigIs v m0 y1 y0 q from ⟨q1', by omega, HFT.out, HG.out.2.2.2.2⟩)
          obtain ⟨q0, rfl⟩ : ∃ q0, q0 = q := ⟨_, rfl⟩
          have hd0 := HD0.out; obtain ⟨q0a, q0b, _, _⟩ := hd0
          obtain ⟨r0, hr0, hr1, hr2, hr3⟩ := HD0.out.rest HYY.out
          have HE0 := Lib.hid (div_whole (n := hi * 18446744073709551616 + lo) (y := y) (p := P) (u := U) (m := M) (q1 := q1) (q0 := q0) (v := v) (r := r0) hP HN.out (by rw [HYp.out, HM1.out]; exact HV.out) (by rw [HYp.out, HM0.out]; exact hr3) (by rw [HYp.out]; exact ⟨hr1, hr2⟩) (by omega))
          have ew : IntKind.u64.wrap (IntKind.u64.wrap (IntKind.u64.wrap (v * 4294967296) + m0) - IntKind.u64.wrap (q0 * Y)) = r0 := wrap_rest hr0 (by omega)
          clear hr0 hr3
          go_wp2
          go_ret2
          rw [← HE0.out.1, ← HE0.out.2]
          exact ⟨rfl, Below.refl _ _⟩
      · go_wp2
        go_round
        case rel => exact ⟨_, _, rfl, rfl, HDN.out, by omega, by omega, by omega, HNX.out⟩
        case measure => simp [intOf]; omega
    have HFT := Lib.hid (digit_fit (d := m1) (y0 := y0) HG.out.1 hc)
    have HD1 := Lib.hid (show DigIs U m1 y1 y0 q from ⟨q1', by omega, HFT.out, HG.out.2.2.2.2⟩)
    obtain ⟨q1, rfl⟩ : ∃ q1, q1 = q := ⟨_, rfl⟩
    have hd1 := HD1.out; obtain ⟨q1a, q1b, _, _⟩ := hd1
    obtain ⟨v, hv0, hv1, hv2, hv3⟩ := HD1.out.rest HYY.out
    have ev : IntKind.u64.wrap (IntKind.u64.wrap (IntKind.u64.wrap (U * 4294967296) + m1) - IntKind.u64.wrap (q1 * Y)) = v := wrap_rest hv0 (by omega)
    have HV := Lib.hid hv3; clear hv0 hv3
    have hvy1 := HvY.out v hv2
    have HF0 := Lib.hid (digit_first (u := v) (d := m0) (y1 := y1) (y0 := y0) (by omega) (by omega) (by omega) (by omega))
    have hf := HF0.out; obtain ⟨_, f1, f2, f3, _⟩ := hf
    have hyz1 : ¬ y1 = 0 := by omega
    have fle : v / y1 * y1 ≤ v := by omega
    have fge : 0 ≤ v / y1 * y1 := Int.mul_nonneg f3 (by omega)
    have fq : v / y1 ≤ v := Int.ediv_le_self _ (by omega)
    go_wp2
    go_loop [18, 16] (fun a b => ∃ q r : Int, a = .int .u64 q ∧ b = .int .u64 r ∧ Dig v m0 y1 y0 q r) (fun _ b => (4294967296 - intOf b).toNat)
    case atStart => exact ⟨_, _, rfl, rfl, HF0.out.1, HF0.out.2.1, by omega, f3, HF0.out.2.2.2.2⟩
    case round =>
      clear f1 f2 f3 fle fge fq
      obtain ⟨q, r, rfl, rfl, hdig⟩ := hrel
      have HG := Lib.hid hdig
      obtain ⟨_, r1, r2, q1', _⟩ := hdig
      have hqy : 0 ≤ q * y0 := Int.mul_nonneg q1' (by omega)
      have hqU : q ≤ v := by have e9 := Int.mul_le_mul_of_nonneg_left (show 1 ≤ y1 by omega) q1'; rw [Int.mul_one] at e9; have e8 := HG.out.1; omega
      by_cases hq : 4294967296 ≤ q
      · have HGR := Lib.hid (digit_great (d := m0) (y0 := y0) HG.out.1 (.inl hq) (by omega) ⟨by omega, by omega⟩ (by omega) (by omega))
        have hqp : 1 ≤ q := digit_pos HGR.out (by omega) (by omega) (by omega) (by omega)
        have HDN := Lib.hid (digit_down HG.out.1)
        have HNX := Lib.hid (digit_next HGR.out)
        by_cases hbr : 4294967296 ≤ r + y1
        · have HBK := Lib.hid (digit_break (d := m0) (y0 := y0) HDN.out hbr (by omega) (by omega) (by omega) (by omega))
          have HD0 := Lib.hid (show DigIs v m0 y1 y0 (q - 1) from ⟨by omega, digit_lt HBK.out (by omega) (by omega) (by omega) (by omega), HBK.out, HNX.out⟩)
          obtain ⟨q0, hq0⟩ : ∃ q0, q - 1 = q0 := ⟨_, rfl⟩
          rw [hq0] at HD0
          have hd0 := HD0.out; obtain ⟨q0a, q0b, _, _⟩ := hd0
          obtain ⟨r0, hr0, hr1, hr2, hr3⟩ := HD0.out.rest HYY.out
          have HE0 := Lib.hid (div_whole (n := hi * 18446744073709551616 + lo) (y := y) (p := P) (u := U) (m := M) (q1 := q1) (q0 := q0) (v := v) (r := r0) hP HN.out (by rw [HYp.out, HM1.out]; exact HV.out) (by rw [HYp.out, HM0.out]; exact hr3) (by rw [HYp.out]; exact ⟨hr1, hr2⟩) (by omega))
          have ew : IntKind.u64.wrap (IntKind.u64.wrap (IntKind.u64.wrap (v * 4294967296) + m0) - IntKind.u64.wrap (q0 * Y)) = r0 := wrap_rest hr0 (by omega)
          clear hr0 hr3
          go_wp2
          go_ret2
          rw [← HE0.out.1, ← HE0.out.2]
          exact ⟨rfl, Below.refl _ _⟩
        · go_wp2
          go_round
          case rel => exact ⟨_, _, rfl, rfl, HDN.out, by omega, by omega, by omega, HNX.out⟩
          case measure => simp [intOf]; omega
      have hqy2 : q * y0 ≤ 4294967295 * 4294967295 := Int.mul_le_mul (by omega) (by omega) (by omega) (by omega)
      by_cases hc : 4294967296 * r + m0 < q * y0
      · have HGR := Lib.hid (digit_great (d := m0) (y0 := y0) HG.out.1 (.inr hc) (by omega) ⟨by omega, by omega⟩ (by omega) (by omega))
        have hqp : 1 ≤ q := digit_pos HGR.out (by omega) (by omega) (by omega) (by omega)
        have HDN := Lib.hid (digit_down HG.out.1)
        have HNX := Lib.hid (digit_next HGR.out)
        by_cases hbr : 4294967296 ≤ r + y1
        · have HBK := Lib.hid (digit_break (d := m0) (y0 := y0) HDN.out hbr (by omega) (by omega) (by omega) (by omega))
          have HD0 := Lib.hid (show DigIs v m0 y1 y0 (q - 1) from ⟨by omega, digit_lt HBK.out (by omega) (by omega) (by omega) (by omega), HBK.out, HNX.out⟩)
          obtain ⟨q0, hq0⟩ : ∃ q0, q - 1 = q0 := ⟨_, rfl⟩
          rw [hq0] at HD0
          have hd0 := HD0.out; obtain ⟨q0a, q0b, _, _⟩ := hd0
          obtain ⟨r0, hr0, hr1, hr2, hr3⟩ := HD0.out.rest HYY.out
          have HE0 := Lib.hid (div_whole (n := hi * 18446744073709551616 + lo) (y := y) (p := P) (u := U) (m := M) (q1 := q1) (q0 := q0) (v := v) (r := r0) hP HN.out (by rw [HYp.out, HM1.out]; exact HV.out) (by rw [HYp.out, HM0.out]; exact hr3) (by rw [HYp.out]; exact ⟨hr1, hr2⟩) (by omega))
          have ew : IntKind.u64.wrap (IntKind.u64.wrap (IntKind.u64.wrap (v * 4294967296) + m0) - IntKind.u64.wrap (q0 * Y)) = r0 := wrap_rest hr0 (by omega)
          clear hr0 hr3
          go_wp2
          go_ret2
          rw [← HE0.out.1, ← HE0.out.2]
          exact ⟨rfl, Below.refl _ _⟩
        · go_wp2
          go_round
          case rel => exact ⟨_, _, rfl, rfl, HDN.out, by omega, by omega, by omega, HNX.out⟩
          case measure => simp [intOf]; omega
      have HFT := Lib.hid (digit_fit (d := m0) (y0 := y0) HG.out.1 hc)
      have HD0 := Lib.hid (show DigIs v m0 y1 y0 q from ⟨q1', by omega, HFT.out, HG.out.2.2.2.2⟩)
      obtain ⟨q0, rfl⟩ : ∃ q0, q0 = q := ⟨_, rfl⟩
      have hd0 := HD0.out; obtain ⟨q0a, q0b, _, _⟩ := hd0
      obtain ⟨r0, hr0, hr1, hr2, hr3⟩ := HD0.out.rest HYY.out
      have HE0 := Lib.hid (div_whole (n := hi * 18446744073709551616 + lo) (y := y) (p := P) (u := U) (m := M) (q1 := q1) (q0 := q0) (v := v) (r := r0) hP HN.out (by rw [HYp.out, HM1.out]; exact HV.out) (by rw [HYp.out, HM0.out]; exact hr3) (by rw [HYp.out]; exact ⟨hr1, hr2⟩) (by omega))
      have ew : IntKind.u64.wrap (IntKind.u64.wrap (IntKind.u64.wrap (v * 4294967296) + m0) - IntKind.u64.wrap (q0 * Y)) = r0 := wrap_rest hr0 (by omega)
      clear hr0 hr3
      go_wp2
      go_ret2
      rw [← HE0.out.1, ← HE0.out.2]
      exact ⟨rfl, Below.refl _ _⟩
end Go.Proofs.YtbjdbpdgacfcpaaGreat
end
