/- Parts of a proof, one after another: Likes, Held, LikesT, ScenP. No condition. -/
import Derived.Test.YtbjdbpdgacfcpaaGreatK0
import Derived.Test.YtbjdbpdgacfcpaaGreatK1
import Derived.Test.YtbjdbpdgacfcpaaGreatK3
import Derived.Test.YtbjdbpdgacfcpaaGreatK14
import Derived.Test.YtbjdbpdgacfcpaaGreatK17
/- The laws' own helpers: equal lists are like each other; the sum of a list. -/
section
namespace Go.Proofs.YtbjdbpdgacfcpaaGreat
open Go.RowKit Go.BigFrame

theorem likeInts_any (A : Option Addr) (n cap : Nat) (A2 : Option Addr) (cap2 : Nat) (xs : List Int) (w : World) (hl : xs.length = n) (hn : n ≤ 1048576) (hX : Rd w w.heap.size A 1 (intRows xs)) (hX2 : Rd w w.heap.size A2 1 (intRows xs)) :
    Calls Tryz.prog 46 #[.slice A n cap, .slice A2 n cap2] w fun e w' => e = .returned (.bool true) ∧ Below w.heap.size w w' := by
  have HX := Lib.hid hX; clear hX
  have HX2 := Lib.hid hX2; clear hX2
  have HL := Lib.hid hl; clear hl
  go_enter Tryz.func46, Tryz.ntmps46
  go_wp2
  go_loopw [5] (fun i wr => ∃ k : Nat, k ≤ n ∧ i = .int .i64 k ∧ Below w.heap.size w wr) (fun i _ => n - (intOf i).toNat)
  case atStart => exact ⟨0, by omega, rfl, Below.refl _ _⟩
  case round =>
    obtain ⟨k, hk, rfl, hb⟩ := hrel
    by_cases hlt : k < n
    · obtain ⟨x, hx⟩ := get_of_lt (xs := xs) (k := k) (by rw [HL.out]; exact hlt)
      obtain ⟨ad, rfl, had, hc⟩ := (HX.out.past hb).int_at hx
      obtain ⟨ad2, rfl, had2, hc2⟩ := (HX2.out.past hb).int_at hx
      clear hx
      have d0 := fun y : Past wr => Past.cell hc y
      have d1 := fun y : Past wr => Past.cell hc2 y
      have hki : (k : Int) < (n : Int) := by omega
      clear hc hc2
      go_wp2
      refine wp_region_past (by kernel_rfl) (by kernel_rfl) ?_
      repeat (go_big_quiet_step (fail))
      refine wpQuiet_nil ?_
      rintro _ ⟨y, rfl⟩
      go_wp2
      go_roundw
      case rel => exact ⟨k + 1, by omega, by go_num, hb.trans (y.2.mono hb.size)⟩
      case measure => simp [intOf]; omega
    · have hki : ¬ (k : Int) < (n : Int) := by omega
      go_wp2
      go_ret
      exact ⟨rfl, hb⟩

def SumOk (xs : List Int) : Prop := ∀ k : Nat, -4000000000000000000 ≤ (xs.take k).sum ∧ (xs.take k).sum ≤ 4000000000000000000
theorem takeSum_snoc {xs : List Int} {k : Nat} {x : Int} (hx : xs[k]? = some x) : (xs.take (k + 1)).sum = (xs.take k).sum + x := by
  rw [take_succ_snoc hx]; simp
theorem sumOk_of {lo hi : Int} (h0 : lo ≤ 0) (h1 : 0 ≤ hi) {n : Nat} : ∀ (xs : List Int), xs.length ≤ n → (∀ x ∈ xs, lo ≤ x ∧ x ≤ hi) → lo * (n : Int) ≤ xs.sum ∧ xs.sum ≤ hi * (n : Int)
  | [], _, _ => by
    simp only [List.sum_nil]
    exact ⟨by have := Int.mul_nonneg (show 0 ≤ -lo by omega) (show (0 : Int) ≤ n by omega); rw [Int.neg_mul] at this; omega, Int.mul_nonneg h1 (by omega)⟩
  | x :: r, hl, h => by
    cases n with
    | zero => simp at hl
    | succ n =>
      obtain ⟨h2, h3⟩ := sumOk_of h0 h1 (n := n) r (by simpa using hl) fun y hy => h y (by simp [hy])
      have h4 := h x (by simp)
      simp only [List.sum_cons]
      have e1 : lo * ((n + 1 : Nat) : Int) = lo * (n : Int) + lo := by rw [Int.natCast_add, Int.mul_add]; simp
      have e2 : hi * ((n + 1 : Nat) : Int) = hi * (n : Int) + hi := by rw [Int.natCast_add, Int.mul_add]; simp
      omega
theorem SumOk.of {lo hi : Int} {xs : List Int} {n : Nat} (h0 : lo ≤ 0) (h1 : 0 ≤ hi) (hl : xs.length ≤ n) (h : ∀ x ∈ xs, lo ≤ x ∧ x ≤ hi) (hb : -4000000000000000000 ≤ lo * (n : Int) ∧ hi * (n : Int) ≤ 4000000000000000000) : SumOk xs := fun k => by
  have := sumOk_of h0 h1 (n := n) (xs.take k) (by simp; omega) fun x hx => h x (List.mem_of_mem_take hx)
  omega

theorem laws_sum_any (A : Option Addr) (n cap : Nat) (xs : List Int) (w : World) (hl : xs.length = n) (hn : n ≤ 1048576) (hX : Rd w w.heap.size A 1 (intRows xs)) (hs : SumOk xs) :
    Calls Tryz.prog 47 #[.slice A n cap] w fun e w' => e = .returned (.int .i64 xs.sum) ∧ w = w' := by
  have HX := Lib.hid hX; clear hX
  have HL := Lib.hid hl; clear hl
  have HS := Lib.hid hs; clear hs
  go_enter Tryz.func47, Tryz.ntmps47
  go_wp2
  go_loop [3, 4] (fun s i => ∃ k : Nat, k ≤ n ∧ i = .int .i64 k ∧ s = .int .i64 (xs.take k).sum) (fun _ i => n - (intOf i).toNat)
  case atStart => exact ⟨0, by omega, rfl, rfl⟩
  case round =>
    obtain ⟨k, hk, rfl, rfl⟩ := hrel
    by_cases hlt : k < n
    · obtain ⟨x, hx⟩ := get_of_lt (xs := xs) (k := k) (by rw [HL.out]; exact hlt)
      obtain ⟨ad, rfl, had, hc⟩ := HX.out.int_at hx
      have HE := Lib.hid (takeSum_snoc hx)
      obtain ⟨s0, s1⟩ := HS.out (k + 1)
      rw [HE.out] at s0 s1
      obtain ⟨t0, t1⟩ := HS.out k
      generalize (xs.take k).sum = S at HE s0 s1 t0 t1 ⊢
      have Hx := Lib.hid hx; clear hx
      have hki : (k : Int) < (n : Int) := by omega
      go_wp2
      go_round
      case rel => exact ⟨k + 1, by omega, by go_num, by rw [HE.out]⟩
      case measure => simp [intOf]; omega
    · have hki : ¬ (k : Int) < (n : Int) := by omega
      have hkn : k = n := by omega
      subst hkn
      go_wp2
      go_ret
      exact ⟨by rw [List.take_of_length_le (by rw [HL.out]; exact Nat.le_refl _)]; rfl, rfl⟩
end Go.Proofs.YtbjdbpdgacfcpaaGreat
end

/- Slices that are read in later worlds, many at once. -/
section
namespace Go.Proofs.YtbjdbpdgacfcpaaGreat
open Go.RowKit Go.BigFrame
def Held (w : World) (L : List (Option Addr × Nat × List (List Value))) : Prop := ∀ x ∈ L, Rd w w.heap.size x.1 x.2.1 x.2.2
theorem Held.nil (w : World) : Held w [] := by intro x hx; cases hx
section
variable {w w' : World} {L : List (Option Addr × Nat × List (List Value))} {A : Option Addr} {sz : Nat} {rows : List (List Value)}
theorem Held.past (h : Held w L) (hb : Below w.heap.size w w') : Held w' L := fun x hx => (h x hx).past hb
theorem Held.snoc (h : Held w L) (hr : Rd w w.heap.size A sz rows) : Held w (L ++ [(A, sz, rows)]) := by
  intro x hx
  rcases List.mem_append.1 hx with hx | hx
  · exact h x hx
  · simp only [List.mem_singleton] at hx; rw [hx]; exact hr
theorem Held.cons (h : Held w L) (hr : Rd w w.heap.size A sz rows) : Held w ((A, sz, rows) :: L) := by
  intro x hx
  rcases List.mem_cons.1 hx with hx | hx
  · rw [hx]; exact hr
  · exact h x hx
theorem Held.get (h : Held w L) (k : Nat) (e : L[k]? = some (A, sz, rows)) : Rd w w.heap.size A sz rows := h _ (List.mem_of_getElem? e)
end
theorem Blk.rd {w : World} {g : Nat} {t : TypeId} {r : List Value} (h : Blk w g t r.toArray) : Rd w w.heap.size (some ⟨g, 0, none⟩) r.length [r] := by
  refine .inr ⟨_, rfl, h.lt, fun k r' hk => ?_⟩
  have h0 : k = 0 := by have := (List.getElem?_eq_some_iff.1 hk).1; simp at this; exact this
  subst h0
  simp only [List.getElem?_cons_zero, Option.some.injEq] at hk
  subst hk
  exact ⟨rfl, fun j v hv => by rw [add_none, h.cell]; simpa using hv⟩
/-- the cells of the one row of a box -/
theorem Rd.box {w : World} {B : Nat} {g sz : Nat} {r : List Value} (h : Rd w B (some ⟨g, 0, none⟩) sz [r]) : ∀ (j : Nat) (v : Value), r[j]? = some v → w.cell? ((⟨g, 0, none⟩ : Addr).add j) = some v := by
  intro j v hv
  rcases h with h | ⟨ad, e, _, hc⟩
  · cases h
  · injection e with e; subst e
    have := (hc 0 r rfl).2 j v hv
    simpa using this
theorem res_cap {w : World} {B t sz n cap : Nat} {A : Option Addr} {rows : List (List Value)} (h : Res B w t sz A n cap rows) : n ≤ cap := by
  rcases h.own.2 with ⟨h1, h2⟩ | ⟨g, c, cur, e, _, _, hnc, _⟩
  · simp only [Value.slice.injEq] at h1; omega
  · simp only [Value.slice.injEq] at e; omega
theorem below_all {w0 w1 w2 : World} (h : Below w0.heap.size w0 w1) (hb : Below w1.heap.size w1 w2) : Below w0.heap.size w0 w2 := h.trans (hb.mono h.size)
end Go.Proofs.YtbjdbpdgacfcpaaGreat
end

/- Tables are compared; what a law on portfolios knows of what was drawn. -/
section
namespace Go.Proofs.YtbjdbpdgacfcpaaGreat
open Go.RowKit Go.BigFrame
set_option maxHeartbeats 1000000 in
theorem likeTables9_any (f : Int) (A : Option Addr) (n cap : Nat) (A2 : Option Addr) (cap2 : Nat) (xs : List Int) (w : World) (hl : xs.length = n) (hn : n ≤ 1048576) (hX : Rd w w.heap.size A 1 (intRows xs)) (hX2 : Rd w w.heap.size A2 1 (intRows xs)) :
    Calls Tryz.prog 18 #[.agg #[.int .i64 f, .slice A n cap], .agg #[.int .i64 f, .slice A2 n cap2]] w fun e w' => e = .returned (.bool true) ∧ Below w.heap.size w w' := by
  have hb : Below w.heap.size w ((w.alloc (.cells #[.int .i64 f, .slice A n cap] 26)).alloc (.cells #[.int .i64 f, .slice A2 n cap2] 26)) := ((Below.refl _ w).alloc (Nat.le_refl _) _).alloc (by simp) _
  have HX := Lib.hid (hX.past hb)
  have HX2 := Lib.hid (hX2.past hb)
  have HB := Lib.hid hb
  clear hX hX2 hb
  go_enter Tryz.func18, Tryz.ntmps18
  go_wp2_with (go_at_call 46; refine (likeInts_any A n cap A2 cap2 xs _ hl hn HX.out HX2.out).mono ?_; rintro e w' ⟨rfl, hb⟩)
  go_ret
  exact ⟨rfl, HB.out.trans (hb.mono HB.out.size)⟩
theorem Rd.bcell {w : World} {B g sz : Nat} {r : List Value} (h : Rd w B (some ⟨g, 0, none⟩) sz [r]) (j : Nat) {v : Value} (hv : r[j]? = some v) : w.cell? ⟨g, j, none⟩ = some v := by
  have := Rd.box h j v hv
  rw [add_none] at this
  simpa using this
/-- what is known of a drawn basis and portfolio, beside their cells -/
structure PF (b : Bas) (n c : Nat) (k : Nat) (xs : List Holding) : Prop where
  sm : BasSmall b n
  len : k ≤ 100
  fits : ∀ x ∈ xs, x.fits
  xlen : xs.length = k
  blen : b.lives.length = n
  cap : n ≤ c
theorem PB.pf {B : Nat} {w : World} {b : Bas} {A : Option Addr} {n c : Nat} {A2 : Option Addr} {k c2 : Nat} {xs : List Holding} (h : PB B w b A n c A2 k c2 xs) : PF b n c k xs := ⟨h.sm, h.len, h.fits, h.xlen, h.blen, res_cap h.liv⟩
/-- .. of a drawn basis alone -/
structure BF (b : Bas) (n c : Nat) : Prop where
  sm : BasSmall b n
  blen : b.lives.length = n
  cap : n ≤ c
theorem PF.bf {b : Bas} {n c k : Nat} {xs : List Holding} (h : PF b n c k xs) : BF b n c := ⟨h.sm, h.blen, h.cap⟩
theorem BF.of {B : Nat} {w : World} {b : Bas} {A : Option Addr} {n c : Nat} (h : Res B w 2 1 A n c (intRows b.lives)) (hs : BasSmall b n) : BF b n c := ⟨hs, by have := h.len; rwa [intRows_length] at this, res_cap h⟩
theorem liesT_of {w : World} {A : Option Addr} {n : Nat} {xs : List Int} (hr : Rd w w.heap.size A 1 (intRows xs)) (hl : xs.length = n) (hn : n ≤ 1048576) (h : ∀ x ∈ xs, 0 ≤ x ∧ x ≤ 1000001) : LiesT w A n xs :=
  ⟨hl, hn, hr, fun x hx => by have := h x hx; unfold In64; omega⟩
theorem BF.basT {w : World} {b : Bas} {A : Option Addr} {n c : Nat} (h : BF b n c) (hr : Rd w w.heap.size A 1 (intRows b.lives)) : BasT w A n c b := by
  refine ⟨liesT_of hr h.blen (by have := h.sm.len; omega) h.sm.lives, h.cap, ?_, ?_⟩
  · have := h.sm.first; unfold In64; omega
  · have := h.sm.rate; unfold In64; omega
theorem tab_lives {f : Int} {xs : List Int} (h : tableB f xs = true) : ∀ x ∈ xs, 0 ≤ x ∧ x ≤ 1000001 := by
  intro x hx
  have T := table_ok h
  obtain ⟨k, hk, rfl⟩ := List.getElem_of_mem hx
  have e : lv xs k = xs[k] := lv_get (List.getElem?_eq_getElem hk)
  have h1 := T.nonneg k
  have h2 := T.most k
  omega
theorem tab_first {f : Int} {xs : List Int} (h : tableB f xs = true) : In64 f := by
  have T := table_ok h
  have h1 := T.first0; have h2 := T.first1
  unfold In64; omega
theorem tabT_good {w : World} {A : Option Addr} {n : Nat} {f : Int} {xs : List Int} (h : tableB f xs = true) (hr : Rd w w.heap.size A 1 (intRows xs)) (hl : xs.length = n) : LiesT w A n xs :=
  liesT_of hr hl (by have := (table_ok h).len1; omega) (tab_lives h)
theorem basT_good {w : World} {A : Option Addr} {n c : Nat} {b : Bas} (h : basisB b = true) (hr : Rd w w.heap.size A 1 (intRows b.lives)) (hl : b.lives.length = n) (hc : n ≤ c) : BasT w A n c b := by
  have B := basis_ok h
  have ht : tableB b.first b.lives = true := by simp only [basisB, Bool.and_eq_true] at h; exact h.1
  refine ⟨tabT_good ht hr hl, hc, tab_first ht, ?_⟩
  have h1 := B.rate0; have h2 := B.rate1
  unfold In64; omega
theorem chgT_len {f dt : Int} {xs : List Int} : (chgTP f xs dt).2.1.length ≤ 1048576 := by
  unfold chgTP
  split
  · rename_i h1
    split
    · have := chgL_small (dt := dt) h1
      show (chgL xs dt).length ≤ 1048576
      omega
    · simp
  · simp
theorem chgB_len {b : Bas} {r : Scenario} : (chgBP b r).1.lives.length ≤ 1048576 := by
  unfold chgBP
  split
  · rename_i h1
    split
    · have ht : tableB b.first b.lives = true := by simp only [basisB, Bool.and_eq_true] at h1; exact h1.1
      have := chgL_small (dt := r.death) ht
      show (chgL b.lives r.death).length ≤ 1048576
      omega
    · simp
  · simp
theorem scen_fits {r d : Int} (h : (-1000 ≤ r ∧ r ≤ 1000) ∧ (-1000 ≤ d ∧ d ≤ 1000)) : (⟨r, d⟩ : Scenario).fits := by
  show In64 r ∧ In64 d
  unfold In64; omega
theorem box2 {w : World} {tx ty : TypeId} {X Y : List Value} : Below w.heap.size w ((w.alloc (.cells X.toArray tx)).alloc (.cells Y.toArray ty)) ∧ Rd ((w.alloc (.cells X.toArray tx)).alloc (.cells Y.toArray ty)) ((w.alloc (.cells X.toArray tx)).alloc (.cells Y.toArray ty)).heap.size (some ⟨w.heap.size, 0, none⟩) X.length [X] ∧ Rd ((w.alloc (.cells X.toArray tx)).alloc (.cells Y.toArray ty)) ((w.alloc (.cells X.toArray tx)).alloc (.cells Y.toArray ty)).heap.size (some ⟨w.heap.size + 1, 0, none⟩) Y.length [Y] := by
  refine ⟨((Below.refl _ w).alloc (Nat.le_refl _) _).alloc (by simp) _, Blk.rd ((Blk.new w tx X.toArray).alloc _), ?_⟩
  have h := Blk.new (w.alloc (.cells X.toArray tx)) ty Y.toArray
  simp only [World.size_alloc] at h
  exact Blk.rd h
theorem box1 {w : World} {tx : TypeId} {X : List Value} : Below w.heap.size w (w.alloc (.cells X.toArray tx)) ∧ Rd (w.alloc (.cells X.toArray tx)) (w.alloc (.cells X.toArray tx)).heap.size (some ⟨w.heap.size, 0, none⟩) X.length [X] :=
  ⟨(Below.refl _ w).alloc (Nat.le_refl _) _, Blk.rd (Blk.new w tx X.toArray)⟩
end Go.Proofs.YtbjdbpdgacfcpaaGreat
end

/- Plain laws of scenarios: a change of nothing changes nothing; a changed table is one; without a change the required reserve is the whole reserve. -/
section
namespace Go.Proofs.YtbjdbpdgacfcpaaGreat

theorem while_pos {p : Nat → Bool} : ∀ {l : List Nat} {x : Nat}, x ∈ l.takeWhile p → p x = true
  | [], x, h => by simp at h
  | a :: l, x, h => by
    rw [List.takeWhile_cons] at h
    split at h
    · rename_i ha
      rcases List.mem_cons.1 h with rfl | h
      · exact ha
      · exact while_pos h
    · cases h
section
variable {f : Int} {xs : List Int} (T : TabOk f xs)
include T
theorem chg_zero_at : ∀ k : Nat, k < xs.length → chgAt xs 0 k = lv xs k
  | 0, _ => by simp [chgAt]
  | k + 1, hk => by
    have h := chg_zero_at k (by omega)
    unfold chgAt
    rw [h]
    unfold chgDead
    split
    · rename_i h2
      have h3 := T.pos k (by omega)
      have h4 := T.anti k
      have h5 := T.nonneg (k + 1)
      have e : lv xs k * (lv xs k - lv xs (k + 1)) * (1000 + 0) = (lv xs k - lv xs (k + 1)) * (1000 * lv xs k) := by
        rw [show (1000 : Int) + 0 = 1000 by rfl, Int.mul_comm (lv xs k) (lv xs k - lv xs (k + 1)), Int.mul_assoc, Int.mul_comm (lv xs k) 1000]
      have e2 : ceilDiv (lv xs k * (lv xs k - lv xs (k + 1)) * (1000 + 0)) (1000 * lv xs k) = lv xs k - lv xs (k + 1) := by
        unfold ceilDiv
        rw [e, ← Int.neg_mul, Int.mul_ediv_cancel _ (by omega)]
        omega
      rw [e2]
      omega
    · rw [T.zero (k + 1) (by omega)]; omega
theorem chg_zero : chgL xs 0 = xs := by
  have h2 := T.len0
  have hlen : chgLen xs 0 = xs.length - 1 := chg_len (by omega) (fun j hj => by rw [chg_zero_at T j (by omega)]; have := T.pos j (by omega); omega) (by rw [chg_zero_at T _ (by omega)]; exact T.zero _ (by omega))
  unfold chgL
  rw [hlen]
  apply List.ext_getElem?
  intro i
  by_cases hi : i < xs.length
  · rw [List.getElem?_map, List.getElem?_range (by omega), lv_some hi]
    simp [chg_zero_at T i hi]
  · rw [List.getElem?_eq_none (by simp; omega), List.getElem?_eq_none (by omega)]
variable {dt : Int} (hd : -500 ≤ dt ∧ dt ≤ 500)
include hd
omit T hd in
theorem chg_pos_all {j : Nat} (h : j < chgLen xs dt) : 0 < chgAt xs dt j := by
  unfold chgLen at h
  have h1 := List.takeWhile_prefix (fun k => decide (0 < chgAt xs dt k)) (l := List.range xs.length)
  have hj : ((List.range xs.length).takeWhile fun k => decide (0 < chgAt xs dt k))[j]? = some j := by
    obtain ⟨t, ht⟩ := h1
    have hlt : j < xs.length := by
      have := congrArg List.length ht
      simp only [List.length_append, List.length_range] at this
      omega
    have h3 : (List.range xs.length)[j]? = some j := List.getElem?_range hlt
    rw [← ht, List.getElem?_append_left h] at h3
    exact h3
  have hm := List.mem_of_getElem? hj
  have := while_pos hm
  simpa using this
/-- where the lives end -/
theorem chg_end : 1 ≤ chgLen xs dt ∧ chgLen xs dt + 1 ≤ xs.length ∧ chgAt xs dt (chgLen xs dt) = 0 := by
  have h2 := T.len0
  have hp0 : 0 < chgAt xs dt 0 := by unfold chgAt; have := T.pos 0 (by omega); omega
  -- the first place without lives
  have key : ∀ n : Nat, (∀ j, j < n → 0 < chgAt xs dt j) ∨ ∃ k, k < n ∧ (∀ j, j < k → 0 < chgAt xs dt j) ∧ chgAt xs dt k = 0 := by
    intro n
    induction n with
    | zero => exact .inl fun j hj => by omega
    | succ n ih =>
      rcases ih with h | ⟨k, hk, h1, h2⟩
      · rcases Int.lt_or_le 0 (chgAt xs dt n) with hn | hn
        · exact .inl fun j hj => by
            rcases Nat.lt_or_ge j n with h3 | h3
            · exact h j h3
            · rw [show j = n by omega]; exact hn
        · exact .inr ⟨n, by omega, h, by have := (chg_bound T hd n).1; omega⟩
      · exact .inr ⟨k, by omega, h1, h2⟩
  have hz : chgAt xs dt (xs.length - 1) = 0 := by
    obtain ⟨m, hm⟩ : ∃ m, xs.length = m + 2 := ⟨xs.length - 2, by omega⟩
    rw [show xs.length - 1 = m + 1 by omega]
    exact chg_last (by omega)
  rcases key xs.length with h | ⟨k, hk, h1, h3⟩
  · have := h (xs.length - 1) (by omega); omega
  · have e := chg_len hk h1 h3
    rw [e]
    have hk0 : k ≠ 0 := fun h0 => by rw [h0] at h3; omega
    have hk1 : k ≤ xs.length - 1 := by
      rcases Nat.lt_or_ge (xs.length - 1) k with h9 | h9
      · have := h1 (xs.length - 1) h9; omega
      · exact h9
    exact ⟨by omega, by omega, h3⟩
omit T hd in
theorem chg_lv {k : Nat} (hk : k ≤ chgLen xs dt) : lv (chgL xs dt) k = chgAt xs dt k := by
  have : (chgL xs dt)[k]? = some (chgAt xs dt k) := by
    unfold chgL
    rw [List.getElem?_map, List.getElem?_range (by omega)]; rfl
  exact lv_get this
/-- a changed table is one -/
theorem chg_table : tableB f (chgL xs dt) = true := by
  obtain ⟨h1, h2, h3⟩ := chg_end T hd
  have hl := chgL_length xs dt
  have hl2 : ((chgL xs dt).length : Int) = (chgLen xs dt : Int) + 1 := by rw [hl]; simp
  have t1 := T.first0; have t2 := T.first1; have t3 := T.len1; have t4 := T.top
  have b0 := chg_bound T hd 0
  simp only [tableB, headB, Bool.and_eq_true, inR_true, decide_eq_true_eq, List.all_eq_true, List.mem_range, rowB, Bool.or_eq_true]
  refine ⟨⟨⟨t1, t2⟩, ⟨by omega, by omega⟩, by rw [chg_lv (by omega)]; exact b0.2, ?_, by omega⟩, fun i hi => ?_⟩
  · rw [hl, Nat.add_sub_cancel, chg_lv (Nat.le_refl _)]; exact h3
  · rw [hl, Nat.add_sub_cancel] at hi
    rw [chg_lv (by omega)]
    refine ⟨by have := chg_pos_all hi; omega, ?_⟩
    rcases Nat.eq_zero_or_pos i with h0 | h0
    · exact .inl h0
    · right
      obtain ⟨m, rfl⟩ : ∃ m, i = m + 1 := ⟨i - 1, by omega⟩
      rw [Nat.add_sub_cancel, chg_lv (by omega)]
      exact chg_anti T hd m
end
theorem chgT_good {f : Int} {xs : List Int} {dt : Int} (h : (chgTP f xs dt).2.2 = 0) : chgTP f xs 0 = (f, xs, 0) ∧ (chgTP f xs dt).1 = f ∧ tableB (chgTP f xs dt).1 (chgTP f xs dt).2.1 = true := by
  unfold chgTP at h ⊢
  by_cases h1 : tableB f xs = true
  · rw [if_pos h1] at h
    by_cases h2 : inR dt (-500) 500 = true
    · rw [if_pos h1, if_pos h1, if_pos h2]
      have e0 : inR 0 (-500) 500 = true := by decide
      rw [if_pos e0, chg_zero (table_ok h1)]
      exact ⟨rfl, rfl, chg_table (table_ok h1) (inR_true.1 h2)⟩
    · rw [if_neg h2] at h; simp at h
  · rw [if_neg h1] at h; simp at h
theorem chgB_good {b : Bas} {r : Scenario} (h : (chgBP b r).2 = 0) : basisB (chgBP b r).1 = true := by
  unfold chgBP at h ⊢
  by_cases h1 : basisB b = true
  · rw [if_pos h1] at h ⊢
    by_cases h2 : scenB b r = true
    · rw [if_pos h2]
      have hb := basis_ok h1
      simp only [scenB, Bool.and_eq_true] at h2
      simp only [basisB, chgB, Bool.and_eq_true]
      exact ⟨chg_table hb.tab (inR_true.1 h2.2.1), h2.2.2⟩
    · rw [if_neg h2] at h; simp at h
  · rw [if_neg h1] at h; simp at h
theorem req_none {b : Bas} {xs : List Holding} (h : portB b xs = true) : reqP b xs ⟨0, 0⟩ = ((resL b xs).sum, 0) := by
  have hb := basis_ok (port_basis h)
  have hs : scenB b ⟨0, 0⟩ = true := by
    simp only [scenB, Bool.and_eq_true, inR_true]
    have := hb.rate0; have := hb.rate1
    exact ⟨by omega, by omega, by omega⟩
  have hc : chgB b ⟨0, 0⟩ = b := by
    unfold chgB
    rw [show (⟨0, 0⟩ : Scenario).death = 0 from rfl, chg_zero hb.tab]
    cases b; simp
  unfold reqP reqIn
  rw [if_pos h, hs, hc]
  simp only [Bool.and_self, if_true, h]
  rfl
end Go.Proofs.YtbjdbpdgacfcpaaGreat
end
