/- Parts of a proof, one after another: Sort4, Sum, Likes, DrawA, Rate, LifeP, StPolicy. No condition. -/
import Derived.Test.YtbjdbpdgacfcpaaGreatK0
import Derived.Test.YtbjdbpdgacfcpaaGreatK1
import Derived.Test.YtbjdbpdgacfcpaaGreatK2
import Derived.Test.YtbjdbpdgacfcpaaGreatK4
/- Sorting the indices: the stable sort. -/
section
namespace Go.Proofs.YtbjdbpdgacfcpaaGreat
open Go.RowKit Go.BigFrame

set_option maxRecDepth 20000 in
set_option maxHeartbeats 8000000 in
theorem stable_any {B g n c : Nat} {q1 q2 q3 : Nat} {am s : Int} {X : Option Addr} {mw xc : Nat} {ws : List Int} {w : World} (hn : n ≤ 30) (hmw : n ≤ mw) (C : Cm w q1 q2 q3 g am s X mw xc ws) (S : SW B w w g n c (fun k => k)) :
    Calls Tryz.prog 196 #[.slice (some ⟨g, 0, none⟩) n c, .int .i64 (n : Int), .func (.func 186) #[] #[.pointer (some ⟨q1, 0, none⟩), .pointer (some ⟨q2, 0, none⟩), .pointer (some ⟨q3, 0, none⟩)]] w
      fun e w' => e = .returned (.tuple #[]) ∧ ∃ f', SW B w w' g n c f' ∧ Mv 0 n (fun k => k) f' ∧ Srt (rests am s ws) f' 0 n := by
  have HC := Lib.hid C; clear C
  have HS := Lib.hid S; clear S
  have HM := Lib.hid (show ∀ k, k < n → (fun k : Nat => k) k < mw from fun k hk => by show k < mw; omega)
  have hni : (n : Int) ≤ 30 := by omega
  go_enter Tryz.func196, Tryz.ntmps196
  go_wp2
  go_loopw [7, 8] (fun a b wr => ∃ (A : Nat) (f' : Nat → Nat), a = .int .i64 (A : Int) ∧ b = .int .i64 ((A : Int) + 20) ∧ (A = 0 ∨ (A = 20 ∧ 20 ≤ n)) ∧ Hid (SW B w wr g n c f') ∧ Hid (Mv 0 A (fun k => k) f') ∧ Hid (Srt (rests am s ws) f' 0 A)) (fun a _ _ => 40 - (intOf a).toNat)
  case atStart => exact ⟨0, fun k => k, rfl, rfl, .inl rfl, HS, Lib.hid (Mv.refl _ _ _), Lib.hid (Srt.tiny _ _ (by omega))⟩
  case round =>
    obtain ⟨A, f1, rfl, rfl, hA, HW, HMV, HSR⟩ := hrel
    by_cases hge : A + 20 ≤ n
    · have hA0 : A = 0 := by omega
      subst hA0
      have h20 : (20 : Int) ≤ (n : Int) := by omega
      have hcond : ((0 : Nat) : Int) + 20 ≤ (n : Int) := by omega
      have HC2 := Lib.hid (HC.out.sw HW.out)
      have HCALL := Lib.hid (insertion_any 0 20 HC2.out (SW.start HW.out.res) (by omega) (by omega) (by omega) (fun p q h1 h2 h3 => by rw [HMV.out.out p (.inr (by omega)), HMV.out.out q (.inr (by omega))]; exact h2) ((HMV.out.wide (a' := 0) (b' := n) (by omega) (by omega)).lt (Nat.le_refl _) HM.out))
      go_wp2_with (go_at_call 201; refine HCALL.out.mono ?_; rintro e w1 ⟨rfl, f2, hs, hm2, ht2⟩)
      go_roundw
      case rel => exact ⟨20, f2, by go_num, by go_num, .inr ⟨rfl, by omega⟩, Lib.hid (HW.out.trans hs), Lib.hid ((HMV.out.wide (Nat.le_refl _) (by omega)).trans hm2), Lib.hid ht2⟩
      case measure => simp [intOf]
    · have hcond : ¬ (A : Int) + 20 ≤ (n : Int) := by omega
      have hAn : A ≤ n := by omega
      have HC2 := Lib.hid (HC.out.sw HW.out)
      have HCALL := Lib.hid (insertion_any A n HC2.out (SW.start HW.out.res) (by omega) hAn (Nat.le_refl _) (fun p q h1 h2 h3 => by rw [HMV.out.out p (.inr (by omega)), HMV.out.out q (.inr (by omega))]; exact h2) ((HMV.out.wide (a' := 0) (b' := n) (by omega) (by omega)).lt (Nat.le_refl _) HM.out))
      go_wp2_with (go_at_call 201; refine HCALL.out.mono ?_; rintro e w1 ⟨rfl, f2, hs, hm2, ht2⟩)
      have HW2 := Lib.hid (HW.out.trans hs)
      have HMA := Lib.hid ((HMV.out.wide (a' := 0) (b' := n) (by omega) (by omega)).trans (hm2.wide (by omega) (Nat.le_refl _)))
      have HLO := Lib.hid (HSR.out.of_out (g := f2) fun k _ hk => hm2.out k (.inl hk))
      have HHI := Lib.hid ht2
      have HLR := Lib.hid (show LR f2 0 A n from fun i j i1 i2 i3 i4 => by
        obtain ⟨p, _, p2, e⟩ := HMV.out.from_ i i1 i2
        obtain ⟨q, q1', q2', e'⟩ := hm2.from_ j i3 i4
        rw [hm2.out i (.inl i2), e, e', HMV.out.out q (.inr q1')]
        show p < q
        omega)
      clear hs hm2 ht2 HCALL HC2 HW HMV HSR
      by_cases h20 : n ≤ 20
      · have hlt : ¬ (20 : Int) < (n : Int) := by omega
        rename World => w2
        have HFIN := Lib.hid (show Srt (rests am s ws) f2 0 n from by
          rcases hA with h | ⟨h, h'⟩
          · have h2 := HHI.out; rw [h] at h2; exact h2
          · have h2 := HLO.out; rw [h] at h2; exact h2.sub (Nat.le_refl _) h20)
        go_loopw [6] (fun bs wr => bs = .int .i64 20 ∧ w2 = wr) (fun _ _ => 0)
        case atStart => exact ⟨rfl, rfl⟩
        case round =>
          obtain ⟨rfl, rfl⟩ := hrel
          go_wp2
          go_end0
          exact ⟨rfl, f2, HW2.out, HMA.out, HFIN.out⟩
      · have hA20 : A = 20 := by omega
        subst hA20
        have hlt : (20 : Int) < (n : Int) := by omega
        have h40 : ¬ (40 : Int) ≤ (n : Int) := by omega
        have h40' : ¬ (40 : Int) < (n : Int) := by omega
        have HC2 := Lib.hid (HC.out.sw HW2.out)
        have HCALL := Lib.hid (symMerge_any (hn := (by omega : n ≤ 1000)) (n - 0) 0 20 n _ f2 (Nat.le_refl _) (by omega) (by omega) (Nat.le_refl _) HC2.out (SW.start HW2.out.res) (HMA.out.lt (Nat.le_refl _) HM.out) HLO.out HHI.out HLR.out)
        rename World => w2
        refine wp_loop_rounds 2 ?_
        rw [rounds_succ]
        go_wp2
        refine wp_loop_rounds 1 ?_
        rw [rounds_succ]
        go_wp2_with (go_at_call 202; refine HCALL.out.mono ?_; rintro e w5 ⟨rfl, f3, hs, hm3, ht3⟩)
        rw [rounds_succ]
        go_wp2
        go_end0
        exact ⟨rfl, f3, HW2.out.trans hs, HMA.out.trans hm3, ht3⟩
set_option maxRecDepth 20000 in
theorem sortStable_any {B g n c : Nat} {q1 q2 q3 : Nat} {am s : Int} {X : Option Addr} {mw xc : Nat} {ws : List Int} {w : World} (hn : n ≤ 30) (hmw : n ≤ mw) (C : Cm w q1 q2 q3 g am s X mw xc ws) (S : SW B w w g n c (fun k => k)) :
    Calls Tryz.prog 185 #[.slice (some ⟨g, 0, none⟩) n c, .func (.func 186) #[] #[.pointer (some ⟨q1, 0, none⟩), .pointer (some ⟨q2, 0, none⟩), .pointer (some ⟨q3, 0, none⟩)]] w
      fun e w' => e = .returned (.tuple #[]) ∧ ∃ f', SW B w w' g n c f' ∧ Mv 0 n (fun k => k) f' ∧ Srt (rests am s ws) f' 0 n := by
  have HC := Lib.hid C; clear C
  have HS := Lib.hid S; clear S
  go_enter Tryz.func185, Tryz.ntmps185
  go_wp2_with fail
  refine (stable_any hn hmw HC.out HS.out).mono ?_
  rintro e w1 ⟨rfl, f', hs, hm, ht⟩
  go_wp2
  go_end0
  exact ⟨rfl, f', hs, hm, ht⟩
end Go.Proofs.YtbjdbpdgacfcpaaGreat
end

/- The sum of a list of numbers: the program's and the reference's contracts. -/
section
namespace Go.Proofs.YtbjdbpdgacfcpaaGreat
open Go.RowKit Go.BigFrame

/-- no sum of a list's first elements is too great for int64 -/
def Sums (xs : List Int) : Prop := ∀ k : Nat, -4000000000000000000 ≤ (xs.take k).sum ∧ (xs.take k).sum ≤ 4000000000000000000
theorem sum_snoc {xs : List Int} {k : Nat} {x : Int} (hx : xs[k]? = some x) : (xs.take (k + 1)).sum = (xs.take k).sum + x := by
  rw [take_succ_snoc hx]; simp
theorem sum_bound {lo hi : Int} (h0 : lo ≤ 0) (h1 : 0 ≤ hi) : ∀ (xs : List Int), (∀ x ∈ xs, lo ≤ x ∧ x ≤ hi) → lo * (xs.length : Int) ≤ xs.sum ∧ xs.sum ≤ hi * (xs.length : Int)
  | [], _ => by simp
  | x :: r, h => by
    have hx := h x (by simp)
    have := sum_bound h0 h1 r fun y hy => h y (by simp [hy])
    simp only [List.sum_cons, List.length_cons, Int.natCast_add, Int.mul_add]
    omega
theorem sums_of {xs : List Int} {hi : Int} {n : Nat} (h1 : 0 ≤ hi) (hl : xs.length ≤ n) (h : ∀ x ∈ xs, 0 ≤ x ∧ x ≤ hi) (hb : hi * (n : Int) ≤ 4000000000000000000) : Sums xs ∧ 0 ≤ xs.sum ∧ xs.sum ≤ hi * (n : Int) := by
  have key : ∀ ys : List Int, ys.length ≤ n → (∀ x ∈ ys, 0 ≤ x ∧ x ≤ hi) → 0 ≤ ys.sum ∧ ys.sum ≤ hi * (n : Int) := fun ys h2 h3 => by
    have := sum_bound (lo := 0) (by omega) h1 ys h3
    have h4 : hi * (ys.length : Int) ≤ hi * (n : Int) := Int.mul_le_mul_of_nonneg_left (by omega) h1
    rw [Int.zero_mul] at this
    omega
  refine ⟨fun k => ?_, key xs hl h⟩
  have := key (xs.take k) (by simp; omega) fun x hx => h x (List.mem_of_mem_take hx)
  omega

set_option maxHeartbeats 1000000 in
theorem impl_total_any (A : Option Addr) (n cap : Nat) (xs : List Int) (w : World) (hl : xs.length = n) (hn : n ≤ 1048576) (hX : Rd w w.heap.size A 1 (intRows xs)) (hs : Sums xs) :
    Calls Tryz.prog 97 #[.slice A n cap] w fun e w' => e = .returned (.int .i64 xs.sum) ∧ w = w' := by
  have HX := Lib.hid hX; clear hX
  have HL := Lib.hid hl; clear hl
  have HS := Lib.hid hs; clear hs
  go_enter Tryz.func97, Tryz.ntmps97
  go_wp2
  go_loop [3, 8] (fun s i => ∃ k : Nat, k ≤ n ∧ i = .int .i64 k ∧ s = .int .i64 (xs.take k).sum) (fun _ i => n - (intOf i).toNat)
  case atStart => exact ⟨0, by omega, rfl, rfl⟩
  case round =>
    obtain ⟨k, hk, rfl, rfl⟩ := hrel
    by_cases hlt : k < n
    · obtain ⟨x, hx⟩ := get_of_lt (xs := xs) (k := k) (by rw [HL.out]; exact hlt)
      obtain ⟨ad, rfl, had, hc⟩ := HX.out.int_at hx
      have HE := Lib.hid (sum_snoc hx)
      have hb := HS.out (k + 1)
      rw [HE.out] at hb
      obtain ⟨b1, b2⟩ := hb
      clear hx
      go_wp2
      go_round
      case rel => exact ⟨k + 1, by omega, by go_num, by rw [HE.out]⟩
      case measure => simp [intOf]; omega
    · have hkn : k = n := by omega
      subst hkn
      go_wp2
      go_ret
      exact ⟨by rw [take_all HL.out]; rfl, rfl⟩

set_option maxHeartbeats 1000000 in
theorem spec_l01Sum_any (A : Option Addr) (n cap : Nat) (xs : List Int) (w : World) (hl : xs.length = n) (hn : n ≤ 1048576) (hX : Rd w w.heap.size A 1 (intRows xs)) (hs : Sums xs) :
    Calls Tryz.prog 119 #[.slice A n cap] w fun e w' => e = .returned (.int .i64 xs.sum) ∧ w = w' := by
  have HX := Lib.hid hX; clear hX
  have HL := Lib.hid hl; clear hl
  have HS := Lib.hid hs; clear hs
  go_enter Tryz.func119, Tryz.ntmps119
  go_wp2
  go_loop [3, 4] (fun s i => ∃ k : Nat, k ≤ n ∧ i = .int .i64 k ∧ s = .int .i64 (xs.take k).sum) (fun _ i => n - (intOf i).toNat)
  case atStart => exact ⟨0, by omega, rfl, rfl⟩
  case round =>
    obtain ⟨k, hk, rfl, rfl⟩ := hrel
    by_cases hlt : k < n
    · obtain ⟨x, hx⟩ := get_of_lt (xs := xs) (k := k) (by rw [HL.out]; exact hlt)
      obtain ⟨ad, rfl, had, hc⟩ := HX.out.int_at hx
      have HE := Lib.hid (sum_snoc hx)
      have hb := HS.out (k + 1)
      rw [HE.out] at hb
      obtain ⟨b1, b2⟩ := hb
      clear hx
      go_wp2
      go_round
      case rel => exact ⟨k + 1, by omega, by go_num, by rw [HE.out]⟩
      case measure => simp [intOf]; omega
    · have hkn : k = n := by omega
      subst hkn
      go_wp2
      go_ret
      exact ⟨by rw [take_all HL.out]; rfl, rfl⟩
end Go.Proofs.YtbjdbpdgacfcpaaGreat
end

/- The laws' own helpers: equal lists are like each other; the sum of a list. -/
section
namespace Go.Proofs.YtbjdbpdgacfcpaaGreat
open Go.RowKit Go.BigFrame

theorem likeInts_any (A : Option Addr) (n cap : Nat) (A2 : Option Addr) (cap2 : Nat) (xs : List Int) (w : World) (hl : xs.length = n) (hn : n ≤ 1048576) (hX : Rd w w.heap.size A 1 (intRows xs)) (hX2 : Rd w w.heap.size A2 1 (intRows xs)) :
    Calls Tryz.prog 46 #[.slice A n cap, .slice A2 n cap2] w fun e w' => e = .returned (.bool true) ∧ Below w.heap.size w w' := by
  have HX := Lib.hid hX; clear hX
  have HX2 := Lib.hid hX2; clear hX2
  have HL := Lib.hid hl; clear hl
  go_enter Tryz.func46, Tryz.ntmps46
  go_wp2
  go_loopw [5] (fun i wr => ∃ k : Nat, k ≤ n ∧ i = .int .i64 k ∧ Below w.heap.size w wr) (fun i _ => n - (intOf i).toNat)
  case atStart => exact ⟨0, by omega, rfl, Below.refl _ _⟩
  case round =>
    obtain ⟨k, hk, rfl, hb⟩ := hrel
    by_cases hlt : k < n
    · obtain ⟨x, hx⟩ := get_of_lt (xs := xs) (k := k) (by rw [HL.out]; exact hlt)
      obtain ⟨ad, rfl, had, hc⟩ := (HX.out.past hb).int_at hx
      obtain ⟨ad2, rfl, had2, hc2⟩ := (HX2.out.past hb).int_at hx
      clear hx
      have d0 := fun y : Past wr => Past.cell hc y
      have d1 := fun y : Past wr => Past.cell hc2 y
      have hki : (k : Int) < (n : Int) := by omega
      clear hc hc2
      go_wp2
      refine wp_region_past (by kernel_rfl) (by kernel_rfl) ?_
      repeat (go_big_quiet_step (fail))
      refine wpQuiet_nil ?_
      rintro _ ⟨y, rfl⟩
      go_wp2
      go_roundw
      case rel => exact ⟨k + 1, by omega, by go_num, hb.trans (y.2.mono hb.size)⟩
      case measure => simp [intOf]; omega
    · have hki : ¬ (k : Int) < (n : Int) := by omega
      go_wp2
      go_ret
      exact ⟨rfl, hb⟩

def SumOk (xs : List Int) : Prop := ∀ k : Nat, -4000000000000000000 ≤ (xs.take k).sum ∧ (xs.take k).sum ≤ 4000000000000000000
theorem takeSum_snoc {xs : List Int} {k : Nat} {x : Int} (hx : xs[k]? = some x) : (xs.take (k + 1)).sum = (xs.take k).sum + x := by
  rw [take_succ_snoc hx]; simp
theorem sumOk_of {lo hi : Int} (h0 : lo ≤ 0) (h1 : 0 ≤ hi) {n : Nat} : ∀ (xs : List Int), xs.length ≤ n → (∀ x ∈ xs, lo ≤ x ∧ x ≤ hi) → lo * (n : Int) ≤ xs.sum ∧ xs.sum ≤ hi * (n : Int)
  | [], _, _ => by
    simp only [List.sum_nil]
    exact ⟨by have := Int.mul_nonneg (show 0 ≤ -lo by omega) (show (0 : Int) ≤ n by omega); rw [Int.neg_mul] at this; omega, Int.mul_nonneg h1 (by omega)⟩
  | x :: r, hl, h => by
    cases n with
    | zero => simp at hl
    | succ n =>
      obtain ⟨h2, h3⟩ := sumOk_of h0 h1 (n := n) r (by simpa using hl) fun y hy => h y (by simp [hy])
      have h4 := h x (by simp)
      simp only [List.sum_cons]
      have e1 : lo * ((n + 1 : Nat) : Int) = lo * (n : Int) + lo := by rw [Int.natCast_add, Int.mul_add]; simp
      have e2 : hi * ((n + 1 : Nat) : Int) = hi * (n : Int) + hi := by rw [Int.natCast_add, Int.mul_add]; simp
      omega
theorem SumOk.of {lo hi : Int} {xs : List Int} {n : Nat} (h0 : lo ≤ 0) (h1 : 0 ≤ hi) (hl : xs.length ≤ n) (h : ∀ x ∈ xs, lo ≤ x ∧ x ≤ hi) (hb : -4000000000000000000 ≤ lo * (n : Int) ∧ hi * (n : Int) ≤ 4000000000000000000) : SumOk xs := fun k => by
  have := sumOk_of h0 h1 (n := n) (xs.take k) (by simp; omega) fun x hx => h x (List.mem_of_mem_take hx)
  omega

theorem laws_sum_any (A : Option Addr) (n cap : Nat) (xs : List Int) (w : World) (hl : xs.length = n) (hn : n ≤ 1048576) (hX : Rd w w.heap.size A 1 (intRows xs)) (hs : SumOk xs) :
    Calls Tryz.prog 47 #[.slice A n cap] w fun e w' => e = .returned (.int .i64 xs.sum) ∧ w = w' := by
  have HX := Lib.hid hX; clear hX
  have HL := Lib.hid hl; clear hl
  have HS := Lib.hid hs; clear hs
  go_enter Tryz.func47, Tryz.ntmps47
  go_wp2
  go_loop [3, 4] (fun s i => ∃ k : Nat, k ≤ n ∧ i = .int .i64 k ∧ s = .int .i64 (xs.take k).sum) (fun _ i => n - (intOf i).toNat)
  case atStart => exact ⟨0, by omega, rfl, rfl⟩
  case round =>
    obtain ⟨k, hk, rfl, rfl⟩ := hrel
    by_cases hlt : k < n
    · obtain ⟨x, hx⟩ := get_of_lt (xs := xs) (k := k) (by rw [HL.out]; exact hlt)
      obtain ⟨ad, rfl, had, hc⟩ := HX.out.int_at hx
      have HE := Lib.hid (takeSum_snoc hx)
      obtain ⟨s0, s1⟩ := HS.out (k + 1)
      rw [HE.out] at s0 s1
      obtain ⟨t0, t1⟩ := HS.out k
      generalize (xs.take k).sum = S at HE s0 s1 t0 t1 ⊢
      have Hx := Lib.hid hx; clear hx
      have hki : (k : Int) < (n : Int) := by omega
      go_wp2
      go_round
      case rel => exact ⟨k + 1, by omega, by go_num, by rw [HE.out]⟩
      case measure => simp [intOf]; omega
    · have hki : ¬ (k : Int) < (n : Int) := by omega
      have hkn : k = n := by omega
      subst hkn
      go_wp2
      go_ret
      exact ⟨by rw [List.take_of_length_le (by rw [HL.out]; exact Nat.le_refl _)]; rfl, rfl⟩
end Go.Proofs.YtbjdbpdgacfcpaaGreat
end

/- Draws of rates and lists of rates: whatever is drawn, it lies in a range, and nothing but the source turns. -/
section
namespace Go.Proofs.YtbjdbpdgacfcpaaGreat
open Go.RowKit Go.BigFrame

theorem spec_l01Pick_new (K : Code) (hK : K.Ok) (g : Nat) (w0 : World) (cs : List Value) (m : Nat) (w : World) (hT : Nx K g w0 w) (hm : cs.length = m) (hm0 : 0 < m) (hm1 : m ≤ 100) (hi : cs.all isI64 = true) :
    Calls Tryz.prog 80 #[.pointer (some ⟨g, 0, none⟩), .slice (some ⟨w.heap.size, 0, none⟩) m m] (w.alloc (.cells cs.toArray 2)) fun e w' => ∃ x : Int, e = .returned (.int .i64 x) ∧ OneOf cs x ∧ Nx K g w0 w' :=
  spec_l01Pick_any K hK g w0 w.heap.size cs m _ (hT.alloc _) (Blk.new w _ _) hT.src.lt hm hm0 hm1 hi

theorem spec_l04DrawRate_any (K : Code) (hK : K.Ok) (g : Nat) (w0 : World) (w : World) (hT : Nx K g w0 w) :
    Calls Tryz.prog 147 #[.pointer (some ⟨g, 0, none⟩)] w fun e w' => ∃ x : Int, e = .returned (.int .i64 x) ∧ (-1 ≤ x ∧ x ≤ 201) ∧ Nx K g w0 w' := by
  go_enter Tryz.func147, Tryz.ntmps147
  go_wp2_with (first | (go_at_call 102; refine (spec_l01Next_any K hK g _ _ _ (Nx.refl (Nx.src (by first | exact hT | exact hT.alloc _ | exact (hT.alloc _).alloc _ | exact hT.drew)))).mono ?_; rintro e w3 ⟨x, rfl, ⟨hx0, hx1⟩, hN⟩; have hT := Nx.trans (by first | exact hT | exact hT.alloc _ | exact (hT.alloc _).alloc _ | exact hT.drew) hN) | (go_at_call 80; refine (spec_l01Pick_new K hK g _ _ _ _ (by first | exact hT | exact hT.alloc _ | exact (hT.alloc _).alloc _ | exact hT.drew) (by rfl) (by decide) (by decide) (by rfl)).mono ?_; rintro e w3 ⟨x, rfl, hx, hT⟩; simp only [OneOf, Value.int.injEq, true_and, or_false] at hx))
  all_goals (go_ret; exact ⟨_, rfl, by omega, hT⟩)

/-- an own list of integers in a range -/
def IntsBy (B : Nat) (w : World) (A : Option Addr) (n c : Nat) (lo hi : Int) : Prop := ∃ xs : List Int, Res B w 2 1 A n c (intRows xs) ∧ ∀ x ∈ xs, lo ≤ x ∧ x ≤ hi
theorem ints_snoc {xs : List Int} {v lo hi : Int} (h : ∀ x ∈ xs, lo ≤ x ∧ x ≤ hi) (hv : lo ≤ v ∧ v ≤ hi) : ∀ x ∈ xs ++ [v], lo ≤ x ∧ x ≤ hi := by
  intro x hx
  rcases List.mem_append.1 hx with h' | h'
  · exact h x h'
  · simp only [List.mem_singleton] at h'; rw [h']; exact hv

set_option maxHeartbeats 2000000 in
theorem spec_l03DrawRates_any (K : Code) (hK : K.Ok) (g : Nat) (w0 : World) (w : World) (hT : Nx K g w0 w) :
    Calls Tryz.prog 146 #[.pointer (some ⟨g, 0, none⟩)] w fun e w' => ∃ (A' : Option Addr) (n' c' : Nat), e = .returned (.slice A' n' c') ∧ IntsBy w.heap.size w' A' n' c' 0 1000 ∧ (1 ≤ n' ∧ n' ≤ 25) ∧ Nx K g w0 w' := by
  obtain ⟨i0, hi0, hz0, hz1, hz2⟩ := info_parts Int64.info
  have HI := Lib.hid (And.intro hi0 (And.intro hz0 (And.intro hz1 hz2))); clear hi0 hz0 hz1 hz2
  have HT0 := Lib.hid hT
  have hO := Nx.refl hT.src
  have hgw := hT.src.lt
  have hgB : g < w.heap.size := hgw
  clear hT
  have hT := hO
  have HR0 := Lib.hid (Res.zero_at (w := w) (B := w.heap.size) (t := 2) (sz := 1) (g := w.heap.size) (by simp) (by simp))
  go_enter Tryz.func146, Tryz.ntmps146
  go_wp2_with fail
  have hO := hO.alloc (.cells #[] 2)
  have hT := Nx.refl hO.src
  have HR := HR0
  go_wp2_with (first | (go_at_call 102; refine (spec_l01Next_any K hK g _ _ _ (Nx.refl (Nx.src (by first | exact hT | exact hT.alloc _ | exact (hT.alloc _).alloc _ | exact hT.drew)))).mono ?_; rintro e w3 ⟨x, rfl, ⟨hx0, hx1⟩, hN⟩; have hT := Nx.trans (by first | exact hT | exact hT.alloc _ | exact (hT.alloc _).alloc _ | exact hT.drew) hN) | (go_at_call 80; refine (spec_l01Pick_new K hK g _ _ _ _ (by first | exact hT | exact hT.alloc _ | exact (hT.alloc _).alloc _ | exact hT.drew) (by rfl) (by decide) (by decide) (by rfl)).mono ?_; rintro e w3 ⟨x, rfl, hx, hT⟩; simp only [OneOf, Value.int.injEq, true_and, or_false] at hx))
  have HR := Lib.hid (HR.out.nx hT hgB)
  have hO := hO.trans hT
  clear hT hN
  go_loopw [3, 4, 5] (fun o r i wr => ∃ (k : Nat) (A' : Option Addr) (c' : Nat) (xs : List Int) (m ra : Int), i = .int .i64 m ∧ r = .int .i64 ra ∧ o = .slice A' k c' ∧ (0 ≤ m ∧ 1 ≤ (k : Int) + m ∧ (k : Int) + m ≤ 25) ∧ (0 ≤ ra ∧ ra ≤ 100 * (k : Int) + 100) ∧ Hid (Res w.heap.size wr 2 1 A' k c' (intRows xs)) ∧ Hid (∀ x ∈ xs, 0 ≤ x ∧ x ≤ 1000) ∧ Nx K g w wr) (fun _ _ i _ => (intOf i).toNat)
  case atStart => exact ⟨0, _, _, [], _, _, rfl, rfl, rfl, by omega, by omega, HR, Lib.hid (by simp), hO⟩
  case round =>
    obtain ⟨k, A', c', xs, m, ra, rfl, rfl, rfl, ⟨m0, m1, m2⟩, ⟨r0, r1⟩, HR, HX, hO⟩ := hrel
    have hT := Nx.refl hO.src
    by_cases hm : 0 < m
    · go_wp2_with (first | (go_at_call 102; refine (spec_l01Next_any K hK g _ _ _ (Nx.refl (Nx.src (by first | exact hT | exact hT.alloc _ | exact (hT.alloc _).alloc _ | exact hT.drew)))).mono ?_; rintro e w3 ⟨x, rfl, ⟨hx0, hx1⟩, hN⟩; have hT := Nx.trans (by first | exact hT | exact hT.alloc _ | exact (hT.alloc _).alloc _ | exact hT.drew) hN) | (at_builtin; refine wpList_append_row_at _ rfl _ _ _ rfl (w.heap.size) 2 i0 _ 1 8 Tryz.underlying24 HI.out.1 HI.out.2.1 HI.out.2.2.1 HI.out.2.2.2 rfl (by decide) (by decide) _ _ _ _ rfl (HR.out.nx hT hgB) [.int .i64  _] _ rfl rfl (by simp [Value.oneCell']) (by omega) (Nat.le_trans hO.size hT.size) ?_; intro A2 c2 w5 hR5 hb5 _ _; have hO := (hO.trans hT).kept hgw (Nat.le_refl _) hb5; have hT := Nx.refl hO.src; rw [← intRows_snoc] at hR5; have HR := Lib.hid hR5; clear hR5 hb5))
      all_goals go_round
      case rel => exact ⟨k + 1, _, _, _, _, _, by go_num, by go_num, rfl, by omega, by omega, Lib.hid (HR.out.nx hT hgB), Lib.hid (ints_snoc HX.out (by omega)), hO.trans hT⟩
      case measure => simp [intOf]; omega
    · go_wp2
      go_ret
      exact ⟨A', k, c', rfl, ⟨xs, HR.out, HX.out⟩, by omega, HT0.out.trans hO⟩
end Go.Proofs.YtbjdbpdgacfcpaaGreat
end

/- The discounts of a rate: the program's list and the reference's single one. -/
section
namespace Go.Proofs.YtbjdbpdgacfcpaaGreat
open Go.RowKit Go.BigFrame

def disc (rate : Int) : Nat → Int
  | 0 => 1000000000
  | k + 1 => disc rate k * 1000 / (1000 + rate)
theorem disc_bound {rate : Int} (hr : 0 ≤ rate) : ∀ k : Nat, 0 ≤ disc rate k ∧ disc rate k ≤ 1000000000
  | 0 => by simp [disc]
  | k + 1 => by
    obtain ⟨h1, h2⟩ := disc_bound hr k
    simp only [disc]
    refine ⟨Int.ediv_nonneg (by omega) (by omega), ?_⟩
    have h3 : disc rate k * 1000 / (1000 + rate) ≤ disc rate k * (1000 + rate) / (1000 + rate) := Int.ediv_le_ediv (by omega) (Int.mul_le_mul_of_nonneg_left (by omega) h1)
    rw [Int.mul_ediv_cancel _ (by omega)] at h3
    omega
def discL (rate : Int) (n : Nat) : List Int := (List.range n).map (disc rate)
theorem discL_succ (rate : Int) (k : Nat) : discL rate (k + 1) = discL rate k ++ [disc rate k] := by simp [discL, List.range_succ]
theorem discL_get (rate : Int) {n k : Nat} (h : k < n) : (discL rate n)[k]? = some (disc rate k) := by simp [discL, h]
theorem discL_length (rate : Int) (n : Nat) : (discL rate n).length = n := by simp [discL]

set_option maxHeartbeats 1000000 in
theorem impl_discounts_any (rate : Int) (w : World) (hr : 0 ≤ rate ∧ rate ≤ 200) :
    Calls Tryz.prog 173 #[.int .i64 rate] w fun e w' => ∃ A' c', e = .returned (.slice A' 121 c') ∧ Res w.heap.size w' 2 1 A' 121 c' (intRows (discL rate 121)) ∧ Below w.heap.size w w' := by
  obtain ⟨i0, hi0, hz0, hz1, hz2⟩ := info_parts Int64.info
  have HI := Lib.hid (And.intro hi0 (And.intro hz0 (And.intro hz1 hz2))); clear hi0 hz0 hz1 hz2
  obtain ⟨r1, r2⟩ := hr
  have HR0 := Lib.hid (Res.zero w w.heap.size 2 1 (Nat.le_refl _))
  have HD := Lib.hid (disc_bound r1)
  have hz : ¬ 1000 + rate = 0 := by omega
  go_enter Tryz.func173, Tryz.ntmps173
  go_wp2
  go_loopw [3, 4, 6] (fun o d i wr => ∃ (k : Nat) (A' : Option Addr) (c' : Nat), k ≤ 121 ∧ i = .int .i64 k ∧ d = .int .i64 (disc rate k) ∧ o = .slice A' k c' ∧ Res w.heap.size wr 2 1 A' k c' (intRows (discL rate k)) ∧ Below w.heap.size w wr) (fun _ _ i _ => 121 - (intOf i).toNat)
  case atStart => exact ⟨0, _, _, by omega, rfl, rfl, rfl, HR0.out, (Below.refl _ _).alloc (Nat.le_refl _) _⟩
  case round =>
    obtain ⟨k, A', c', hk, rfl, rfl, rfl, hR, hb⟩ := hrel
    have HR := Lib.hid hR; clear hR
    by_cases hlt : k < 121
    · have hd := HD.out k
      obtain ⟨d1, d2⟩ := hd
      have hlt' : (k : Int) < 121 := by omega
      have hsz : w.heap.size ≤ wr.heap.size := hb.size
      go_wp2_with (at_builtin; refine wpList_append_row wr rfl (.tmp 8) (.tmp 10) 24 rfl w.heap.size 2 i0 _ 1 8 Tryz.underlying24 HI.out.1 HI.out.2.1 HI.out.2.2.1 HI.out.2.2.2 rfl (by decide) (by decide) A' k c' _ rfl HR.out [.int .i64 (disc rate k)] _ rfl rfl (by simp [Value.oneCell']) (by omega) hsz ?_)
      intro B2 c2 w3 hR3 hb5
      have HR3 := Lib.hid hR3; clear hR3
      have hb6 : Below w.heap.size w w3 := hb.trans hb5
      go_wp2
      go_roundw
      case rel => exact ⟨k + 1, B2, c2, by omega, by go_num, rfl, rfl, by rw [discL_succ, intRows_snoc]; exact HR3.out, hb6⟩
      case measure => simp [intOf]; omega
    · have hkn : k = 121 := by omega
      subst hkn
      go_wp2
      go_ret
      exact ⟨A', c', rfl, HR.out, hb⟩

theorem spec_l04Discount_nat (rate : Int) (n : Nat) (w : World) (hr : 0 ≤ rate ∧ rate ≤ 200) (hn : n ≤ 1000) :
    Calls Tryz.prog 190 #[.int .i64 rate, .int .i64 n] w fun e w' => e = .returned (.int .i64 (disc rate n)) ∧ w = w' := by
  obtain ⟨r1, r2⟩ := hr
  have HD := Lib.hid (disc_bound r1)
  have hz : ¬ 1000 + rate = 0 := by omega
  go_enter Tryz.func190, Tryz.ntmps190
  go_wp2
  go_loop [5, 6] (fun d i => ∃ k : Nat, k ≤ n ∧ i = .int .i64 k ∧ d = .int .i64 (disc rate k)) (fun _ i => n - (intOf i).toNat)
  case atStart => exact ⟨0, by omega, rfl, rfl⟩
  case round =>
    obtain ⟨k, hk, rfl, rfl⟩ := hrel
    by_cases hlt : k < n
    · have hd := HD.out k
      obtain ⟨d1, d2⟩ := hd
      go_wp2
      go_round
      case rel => exact ⟨k + 1, by omega, by go_num, rfl⟩
      case measure => simp [intOf]; omega
    · have hkn : k = n := by omega
      subst hkn
      go_wp2
      go_ret
      exact ⟨rfl, rfl⟩
theorem spec_l04Discount_any (rate y : Int) (w : World) (hr : 0 ≤ rate ∧ rate ≤ 200) (hy : 0 ≤ y ∧ y ≤ 1000) :
    Calls Tryz.prog 190 #[.int .i64 rate, .int .i64 y] w fun e w' => e = .returned (.int .i64 (disc rate y.toNat)) ∧ w = w' := by
  obtain ⟨n, rfl⟩ := Int.eq_ofNat_of_zero_le hy.1
  rw [Int.toNat_natCast]
  exact spec_l04Discount_nat rate n w hr (by omega)
end Go.Proofs.YtbjdbpdgacfcpaaGreat
end

/- Life tables and their columns: plain functions and their laws. No program. -/
section
namespace Go.Proofs.YtbjdbpdgacfcpaaGreat
open Go.RowKit Go.BigFrame

/-- the lives at an index, 0 behind the table's end -/
def lv (xs : List Int) (k : Nat) : Int := xs.getD k 0
theorem lv_get {xs : List Int} {k : Nat} {x : Int} (h : xs[k]? = some x) : lv xs k = x := by simp [lv, h]
theorem lv_some {xs : List Int} {k : Nat} (h : k < xs.length) : xs[k]? = some (lv xs k) := by simp [lv, h]
theorem lv_past {xs : List Int} {k : Nat} (h : xs.length ≤ k) : lv xs k = 0 := by
  unfold lv; rw [List.getD_eq_getElem?_getD, List.getElem?_eq_none h]; rfl
/-- a row of the table that is as it must be -/
def rowB (xs : List Int) (i : Nat) : Bool := decide (1 ≤ lv xs i) && (decide (i = 0) || decide (lv xs i ≤ lv xs (i - 1)))
def headB (first : Int) (xs : List Int) : Bool := inR first 0 100 && (inR xs.length 2 120 && (decide (lv xs 0 ≤ 1000000) && (decide (lv xs (xs.length - 1) = 0) && decide (first + (xs.length : Int) - 1 ≤ 150))))
def tableB (first : Int) (xs : List Int) : Bool := headB first xs && (List.range (xs.length - 1)).all (rowB xs)
structure TabOk (first : Int) (xs : List Int) : Prop where
  first0 : 0 ≤ first
  first1 : first ≤ 100
  len0 : 2 ≤ xs.length
  len1 : xs.length ≤ 120
  top : first + (xs.length : Int) - 1 ≤ 150
  pos : ∀ k : Nat, k + 1 < xs.length → 1 ≤ lv xs k
  anti : ∀ k : Nat, lv xs (k + 1) ≤ lv xs k
  nonneg : ∀ k : Nat, 0 ≤ lv xs k
  most : ∀ k : Nat, lv xs k ≤ 1000000
  zero : ∀ k : Nat, xs.length ≤ k + 1 → lv xs k = 0
theorem table_ok {first : Int} {xs : List Int} (h : tableB first xs = true) : TabOk first xs := by
  simp only [tableB, headB, Bool.and_eq_true, inR_true, decide_eq_true_eq, List.all_eq_true, List.mem_range, rowB, Bool.or_eq_true] at h
  obtain ⟨⟨⟨f0, f1⟩, ⟨l0, l1⟩, hm, hz, ht⟩, hr⟩ := h
  have pos : ∀ k : Nat, k + 1 < xs.length → 1 ≤ lv xs k := fun k hk => (hr k (by omega)).1
  have zero : ∀ k : Nat, xs.length ≤ k + 1 → lv xs k = 0 := fun k hk => by
    by_cases e : k + 1 = xs.length
    · rw [show k = xs.length - 1 by omega]; exact hz
    · exact lv_past (by omega)
  have nonneg : ∀ k : Nat, 0 ≤ lv xs k := fun k => by
    by_cases hk : k + 1 < xs.length
    · have := pos k hk; omega
    · rw [zero k (by omega)]; omega
  have anti : ∀ k : Nat, lv xs (k + 1) ≤ lv xs k := fun k => by
    by_cases hk : k + 2 < xs.length
    · rcases (hr (k + 1) (by omega)).2 with h | h
      · omega
      · exact h
    · rw [zero (k + 1) (by omega)]; exact nonneg k
  have most : ∀ k : Nat, lv xs k ≤ 1000000 := fun k => by
    induction k with
    | zero => exact hm
    | succ k ih => have := anti k; omega
  exact ⟨f0, f1, by omega, by omega, ht, pos, anti, nonneg, most, zero⟩

theorem disc_anti {rate : Int} (hr : 0 ≤ rate) (k : Nat) : disc rate (k + 1) ≤ disc rate k := by
  have h1 := (disc_bound hr k).1
  have h3 : disc rate k * 1000 / (1000 + rate) ≤ disc rate k * (1000 + rate) / (1000 + rate) := Int.ediv_le_ediv (by omega) (Int.mul_le_mul_of_nonneg_left (by omega) h1)
  rw [Int.mul_ediv_cancel _ (by omega)] at h3
  exact h3

/-- f k + f (k + 1) + .. : m of them -/
def sumF (f : Nat → Int) (k : Nat) : Nat → Int
  | 0 => 0
  | m + 1 => f k + sumF f (k + 1) m
theorem sumF_snoc (f : Nat → Int) : ∀ (k m : Nat), sumF f k (m + 1) = sumF f k m + f (k + m)
  | k, 0 => by simp [sumF]
  | k, m + 1 => by
    have := sumF_snoc f (k + 1) m
    show f k + sumF f (k + 1) (m + 1) = f k + sumF f (k + 1) m + f (k + (m + 1))
    rw [this, show k + 1 + m = k + (m + 1) by omega]; omega
theorem sumF_zero {f : Nat → Int} : ∀ (k m : Nat), (∀ j, k ≤ j → f j = 0) → sumF f k m = 0
  | _, 0, _ => rfl
  | k, m + 1, h => by
    show f k + sumF f (k + 1) m = 0
    rw [h k (Nat.le_refl _), sumF_zero (k + 1) m fun j hj => h j (by omega)]; rfl
/-- the sum to the table's end, and any longer one -/
theorem sumF_end {f : Nat → Int} {e : Nat} (hz : ∀ j, e ≤ j → f j = 0) : ∀ (k m : Nat), e ≤ k + m → sumF f k m = sumF f k (e - k)
  | k, 0, h => by rw [show e - k = 0 by omega]
  | k, m + 1, h => by
    by_cases hk : e ≤ k
    · rw [sumF_zero k _ fun j hj => hz j (by omega), show e - k = 0 by omega]; rfl
    · rw [show e - k = (e - (k + 1)) + 1 by omega]
      show f k + sumF f (k + 1) m = f k + sumF f (k + 1) (e - (k + 1))
      rw [sumF_end hz (k + 1) m (by omega)]
theorem sumF_split (f : Nat → Int) : ∀ (k m p : Nat), sumF f k (m + p) = sumF f k m + sumF f (k + m) p
  | k, 0, p => by simp [sumF]
  | k, m + 1, p => by
    rw [show m + 1 + p = (m + p) + 1 by omega]
    show f k + sumF f (k + 1) (m + p) = f k + sumF f (k + 1) m + sumF f (k + (m + 1)) p
    rw [sumF_split f (k + 1) m p, show k + 1 + m = k + (m + 1) by omega]; omega

def dC (xs : List Int) (rate : Int) (k : Nat) : Int := lv xs k * disc rate k
def cC (xs : List Int) (rate : Int) (k : Nat) : Int := (lv xs k - lv xs (k + 1)) * disc rate (k + 1)
def nC (xs : List Int) (rate : Int) (k : Nat) : Int := sumF (dC xs rate) k (xs.length - 1 - k)
def mC (xs : List Int) (rate : Int) (k : Nat) : Int := sumF (cC xs rate) k (xs.length - 1 - k)
section
variable {first rate : Int} {xs : List Int} (T : TabOk first xs) (hr : 0 ≤ rate)
include T
theorem dC_zero (k : Nat) (h : xs.length - 1 ≤ k) : dC xs rate k = 0 := by unfold dC; rw [T.zero k (by omega), Int.zero_mul]
theorem cC_zero (k : Nat) (h : xs.length - 1 ≤ k) : cC xs rate k = 0 := by unfold cC; rw [T.zero k (by omega), T.zero (k + 1) (by omega)]; simp
theorem nC_any (k m : Nat) (h : xs.length - 1 ≤ k + m) : sumF (dC xs rate) k m = nC xs rate k := sumF_end (dC_zero T) k m h
theorem mC_any (k m : Nat) (h : xs.length - 1 ≤ k + m) : sumF (cC xs rate) k m = mC xs rate k := sumF_end (cC_zero T) k m h
theorem nC_step (k : Nat) : nC xs rate k = dC xs rate k + nC xs rate (k + 1) := by
  rw [← nC_any T k (xs.length - 1 - (k + 1) + 1) (by omega)]; rfl
theorem mC_step (k : Nat) : mC xs rate k = cC xs rate k + mC xs rate (k + 1) := by
  rw [← mC_any T k (xs.length - 1 - (k + 1) + 1) (by omega)]; rfl
theorem nC_part (k m : Nat) : nC xs rate k - nC xs rate (k + m) = sumF (dC xs rate) k m := by
  have := sumF_split (dC xs rate) k m (xs.length - 1 - (k + m))
  rw [nC_any T k (m + (xs.length - 1 - (k + m))) (by omega), nC_any T (k + m) (xs.length - 1 - (k + m)) (by omega)] at this
  omega
theorem mC_part (k m : Nat) : mC xs rate k - mC xs rate (k + m) = sumF (cC xs rate) k m := by
  have := sumF_split (cC xs rate) k m (xs.length - 1 - (k + m))
  rw [mC_any T k (m + (xs.length - 1 - (k + m))) (by omega), mC_any T (k + m) (xs.length - 1 - (k + m)) (by omega)] at this
  omega
theorem nC_zero (k : Nat) (h : xs.length - 1 ≤ k) : nC xs rate k = 0 := sumF_zero k _ fun j hj => dC_zero T j (by omega)
theorem mC_zero (k : Nat) (h : xs.length - 1 ≤ k) : mC xs rate k = 0 := sumF_zero k _ fun j hj => cC_zero T j (by omega)
include hr
theorem dC_bound (k : Nat) : 0 ≤ dC xs rate k ∧ dC xs rate k ≤ 1000000000000000 := by
  have h1 := disc_bound hr k
  unfold dC
  exact ⟨Int.mul_nonneg (T.nonneg k) h1.1, by have := Int.mul_le_mul (T.most k) h1.2 h1.1 (by omega); omega⟩
theorem cC_bound (k : Nat) : 0 ≤ cC xs rate k ∧ cC xs rate k ≤ dC xs rate k - dC xs rate (k + 1) := by
  have h1 := disc_bound hr (k + 1)
  have h2 := disc_anti hr k
  have h3 := T.anti k
  unfold cC dC
  refine ⟨Int.mul_nonneg (by omega) h1.1, ?_⟩
  rw [Int.sub_mul]
  have := Int.mul_le_mul_of_nonneg_left h2 (T.nonneg k)
  omega
theorem dC_anti (k : Nat) : dC xs rate (k + 1) ≤ dC xs rate k := by have := cC_bound T hr k; omega
theorem dC_anti_add (k : Nat) : ∀ m : Nat, dC xs rate (k + m) ≤ dC xs rate k
  | 0 => Int.le_refl _
  | m + 1 => by have := dC_anti T hr (k + m); have := dC_anti_add k m; rw [← Nat.add_assoc]; omega
theorem cSum_bound : ∀ (k m : Nat), 0 ≤ sumF (cC xs rate) k m ∧ sumF (cC xs rate) k m ≤ dC xs rate k - dC xs rate (k + m)
  | k, 0 => by simp [sumF]
  | k, m + 1 => by
    have h1 := cSum_bound (k + 1) m
    have h2 := cC_bound T hr k
    rw [show k + 1 + m = k + (m + 1) by omega] at h1
    show 0 ≤ cC xs rate k + sumF (cC xs rate) (k + 1) m ∧ cC xs rate k + sumF (cC xs rate) (k + 1) m ≤ _
    omega
theorem dSum_bound : ∀ (k m : Nat), 0 ≤ sumF (dC xs rate) k m ∧ sumF (dC xs rate) k m ≤ (m : Int) * dC xs rate k
  | k, 0 => by simp [sumF]
  | k, m + 1 => by
    have h1 := dSum_bound (k + 1) m
    have h2 := dC_bound T hr k
    have h3 : (m : Int) * dC xs rate (k + 1) ≤ (m : Int) * dC xs rate k := Int.mul_le_mul_of_nonneg_left (dC_anti T hr k) (by omega)
    show 0 ≤ dC xs rate k + sumF (dC xs rate) (k + 1) m ∧ dC xs rate k + sumF (dC xs rate) (k + 1) m ≤ _
    rw [Int.natCast_add, Int.add_mul]
    omega
theorem mC_bound (k : Nat) : 0 ≤ mC xs rate k ∧ mC xs rate k ≤ dC xs rate k := by
  have h1 := cSum_bound T hr k (xs.length - 1 - k)
  have h2 := dC_bound T hr (k + (xs.length - 1 - k))
  unfold mC
  omega
theorem nC_bound (k : Nat) : 0 ≤ nC xs rate k ∧ nC xs rate k ≤ 120 * dC xs rate k := by
  have h1 := dSum_bound T hr k (xs.length - 1 - k)
  have h2 := dC_bound T hr k
  have h3 : ((xs.length - 1 - k : Nat) : Int) * dC xs rate k ≤ 120 * dC xs rate k := Int.mul_le_mul_of_nonneg_right (by have := T.len1; omega) h2.1
  unfold nC
  omega
end

/-- the numerator of the value of an assurance, and the denominator of a level premium -/
def topF (xs : List Int) (rate kind : Int) (k m : Nat) : Int :=
  if kind = 0 then mC xs rate k else if kind = 1 then mC xs rate k - mC xs rate (k + m) else if kind = 2 then mC xs rate k - mC xs rate (k + m) + dC xs rate (k + m) else dC xs rate (k + m)
def baseF (xs : List Int) (rate kind : Int) (k m : Nat) : Int := if kind = 0 then nC xs rate k else nC xs rate k - nC xs rate (k + m)
section
variable {first rate : Int} {xs : List Int} (T : TabOk first xs) (hr : 0 ≤ rate)
include T hr
theorem topF_bound (kind : Int) (k m : Nat) : 0 ≤ topF xs rate kind k m ∧ topF xs rate kind k m ≤ dC xs rate k := by
  have h1 := mC_bound T hr k
  have h2 := cSum_bound T hr k m
  have h3 := mC_part (rate := rate) T k m
  have h4 := dC_bound T hr (k + m)
  have h5 := dC_anti_add T hr k m
  unfold topF
  split
  · exact h1
  · split
    · omega
    · split
      · omega
      · omega
theorem baseF_bound (kind : Int) (k m : Nat) (hm : m ≤ 120) : 0 ≤ baseF xs rate kind k m ∧ baseF xs rate kind k m ≤ 120 * dC xs rate k := by
  have h1 := nC_bound T hr k
  have h2 := dSum_bound T hr k m
  have h3 := nC_part (rate := rate) T k m
  have h4 := dC_bound T hr k
  have h5 : (m : Int) * dC xs rate k ≤ 120 * dC xs rate k := Int.mul_le_mul_of_nonneg_right (by omega) h4.1
  unfold baseF
  split
  · exact h1
  · omega
theorem baseF_pos (kind : Int) (k m : Nat) (h : kind = 0 ∨ 1 ≤ m) : dC xs rate k ≤ baseF xs rate kind k m := by
  have h1 := nC_step (rate := rate) T k
  have h2 := nC_bound T hr (k + 1)
  unfold baseF
  split
  · omega
  · have hm : 1 ≤ m := by rcases h with h | h; contradiction; exact h
    have h3 := nC_part (rate := rate) T k m
    obtain ⟨p, rfl⟩ : ∃ p, m = p + 1 := ⟨m - 1, by omega⟩
    have h4 := dSum_bound T hr (k + 1) p
    have h5 : sumF (dC xs rate) k (p + 1) = dC xs rate k + sumF (dC xs rate) (k + 1) p := rfl
    omega
end
end Go.Proofs.YtbjdbpdgacfcpaaGreat
end

/- The helper functions of the laws for Policy: a copy, a comparison, marks. Each contract holds for every argument of the stated shape. -/
section
namespace Go.Proofs.YtbjdbpdgacfcpaaGreat
open Go.RowKit Go.Deep

structure Policy where
  kind : Int
  age : Int
  years : Int
  sum : Int
  load : Int
def Policy.row (r : Policy) : List Value := [.int .i64 r.kind, .int .i64 r.age, .int .i64 r.years, .int .i64 r.sum, .int .i64 r.load]
def policyRows (xs : List Policy) : List (List Value) := xs.map Policy.row
theorem policyRows_get {xs : List Policy} {k : Nat} {x : Policy} (h : xs[k]? = some x) : (policyRows xs)[k]? = some x.row := by simp [policyRows, h]
theorem policyRows_length (xs : List Policy) : (policyRows xs).length = xs.length := by simp [policyRows]
theorem policyRows_all (xs : List Policy) : ∀ r ∈ policyRows xs, r.length = 5 := by
  intro r hr; obtain ⟨x, _, rfl⟩ := List.mem_map.1 hr; rfl
theorem Policy.oneCell (x : Policy) : ∀ v ∈ x.row, v.oneCell' = true := by simp [Policy.row, Value.oneCell']
theorem Policy.info : (Tryz.prog.info? 88).map (fun i => (i.zero, i.size, i.bytes)) = some (some (.agg #[.int .i64 0, .int .i64 0, .int .i64 0, .int .i64 0, .int .i64 0]), 5, 40) := by kernel_rfl
theorem Policy.size : (Tryz.prog.info? 88).map (·.size) = some 5 := by kernel_rfl
theorem Policy.sizeL : (Tryz.prog.info? 131).map (·.size) = some 5 := by kernel_rfl

theorem Policy.cells {x : Policy} {w : World} {p : Addr} (hc : ∀ (j : Nat) (v : Value), x.row[j]? = some v → w.cell? (p.add j) = some v) : w.cell? p = some (.int .i64 x.kind) ∧ w.cell? ⟨p.block, p.off + 1, none⟩ = some (.int .i64 x.age) ∧ w.cell? ⟨p.block, p.off + 2, none⟩ = some (.int .i64 x.years) ∧ w.cell? ⟨p.block, p.off + 3, none⟩ = some (.int .i64 x.sum) ∧ w.cell? ⟨p.block, p.off + 4, none⟩ = some (.int .i64 x.load) := by
  refine ⟨by have := hc 0 _ rfl; rwa [Addr.add_zero'] at this, hc 1 _ rfl, hc 2 _ rfl, hc 3 _ rfl, hc 4 _ rfl⟩
def Policy.fits (x : Policy) : Prop := In64 x.kind ∧ In64 x.age ∧ In64 x.years ∧ In64 x.sum ∧ In64 x.load
theorem Policy.of_nums : ∀ (rows : List (List Int)), (∀ r ∈ rows, r.length = 5 ∧ ∀ z ∈ r, In64 z) → ∃ xs : List Policy, xs.length = rows.length ∧ policyRows xs = numRows rows ∧ ∀ x ∈ xs, x.fits
  | [], _ => ⟨[], rfl, rfl, by simp⟩
  | q :: rest, h => by
    obtain ⟨xs, hl, hr, hf⟩ := Policy.of_nums rest fun r hr => h r (by simp [hr])
    obtain ⟨hq, hz⟩ := h q (by simp)
    match q, hq with
    | [z0, z1, z2, z3, z4], _ =>
      refine ⟨⟨z0, z1, z2, z3, z4⟩ :: xs, by simp [hl], by rw [policyRows, List.map_cons, numRows, List.map_cons, ← numRows, ← hr]; rfl, fun x hx => ?_⟩
      rcases List.mem_cons.1 hx with rfl | hx
      · exact ⟨hz z0 (by simp), hz z1 (by simp), hz z2 (by simp), hz z3 (by simp), hz z4 (by simp)⟩
      · exact hf x hx
theorem Policy.of_num {zs : List Int} (hl : zs.length = 5) (hz : ∀ z ∈ zs, In64 z) : ∃ x : Policy, (zs.map (Value.int .i64)).toArray = x.row.toArray ∧ x.fits := by
  match zs, hl with
  | [z0, z1, z2, z3, z4], _ => exact ⟨⟨z0, z1, z2, z3, z4⟩, rfl, hz z0 (by simp), hz z1 (by simp), hz z2 (by simp), hz z3 (by simp), hz z4 (by simp)⟩

theorem Policy.intCells : IntCells Tryz.prog 131 5 := by
  refine intCells_flat Tryz.underlying131 (by kernel_rfl) Tryz.underlying2 (by kernel_rfl) fun j hj => ?_
  rcases (by omega : j = 0 ∨ j = 1 ∨ j = 2 ∨ j = 3 ∨ j = 4) with rfl | rfl | rfl | rfl | rfl
  all_goals exact ⟨_, rfl, rfl, rfl⟩

theorem toPolicy_any (x : Policy) (w : World) :
    Calls Tryz.prog 157 #[.agg x.row.toArray] w fun e' w' => e' = .returned (.agg x.row.toArray) ∧ Below w.heap.size w w' := by
  unfold Policy.row
  go_enter Tryz.func157, Tryz.ntmps157
  go_wp2
  refine bodyPost_ret (v := .agg x.row.toArray) (by simp [results, Tryz.results157, go_sem, Policy.row]) rfl ⟨rfl, ?_⟩
  exact (((Below.refl _ _).alloc (Nat.le_refl _) _).alloc (by simp) _).alloc (by simp; omega) _

theorem eqPolicy_any (x : Policy) (w : World) :
    Calls Tryz.prog 163 #[.agg x.row.toArray, .agg x.row.toArray] w fun e' w' => e' = .returned (.bool true) ∧ Below w.heap.size w w' := by
  unfold Policy.row
  go_enter Tryz.func163, Tryz.ntmps163
  go_wp2
  go_ret
  exact ⟨rfl, ((Below.refl _ _).alloc (Nat.le_refl _) _).alloc (by simp) _⟩






end Go.Proofs.YtbjdbpdgacfcpaaGreat
end
