/- Parts of a proof, one after another: LikesT, Dice, Most, SolvQ. No condition. -/
import Derived.Test.YtbjdbpdgacfcpaaGreatK1
import Derived.Test.YtbjdbpdgacfcpaaGreatK3
import Derived.Test.YtbjdbpdgacfcpaaGreatK17
import Derived.Test.YtbjdbpdgacfcpaaGreatK18
import Derived.Test.YtbjdbpdgacfcpaaGreatK19
/- Tables are compared; what a law on portfolios knows of what was drawn. -/
section
namespace Go.Proofs.YtbjdbpdgacfcpaaGreat
open Go.RowKit Go.BigFrame
set_option maxHeartbeats 1000000 in
theorem likeTables9_any (f : Int) (A : Option Addr) (n cap : Nat) (A2 : Option Addr) (cap2 : Nat) (xs : List Int) (w : World) (hl : xs.length = n) (hn : n ≤ 1048576) (hX : Rd w w.heap.size A 1 (intRows xs)) (hX2 : Rd w w.heap.size A2 1 (intRows xs)) :
    Calls Tryz.prog 18 #[.agg #[.int .i64 f, .slice A n cap], .agg #[.int .i64 f, .slice A2 n cap2]] w fun e w' => e = .returned (.bool true) ∧ Below w.heap.size w w' := by
  have hb : Below w.heap.size w ((w.alloc (.cells #[.int .i64 f, .slice A n cap] 26)).alloc (.cells #[.int .i64 f, .slice A2 n cap2] 26)) := ((Below.refl _ w).alloc (Nat.le_refl _) _).alloc (by simp) _
  have HX := Lib.hid (hX.past hb)
  have HX2 := Lib.hid (hX2.past hb)
  have HB := Lib.hid hb
  clear hX hX2 hb
  go_enter Tryz.func18, Tryz.ntmps18
  go_wp2_with (go_at_call 46; refine (likeInts_any A n cap A2 cap2 xs _ hl hn HX.out HX2.out).mono ?_; rintro e w' ⟨rfl, hb⟩)
  go_ret
  exact ⟨rfl, HB.out.trans (hb.mono HB.out.size)⟩
theorem Rd.bcell {w : World} {B g sz : Nat} {r : List Value} (h : Rd w B (some ⟨g, 0, none⟩) sz [r]) (j : Nat) {v : Value} (hv : r[j]? = some v) : w.cell? ⟨g, j, none⟩ = some v := by
  have := Rd.box h j v hv
  rw [add_none] at this
  simpa using this
/-- what is known of a drawn basis and portfolio, beside their cells -/
structure PF (b : Bas) (n c : Nat) (k : Nat) (xs : List Holding) : Prop where
  sm : BasSmall b n
  len : k ≤ 100
  fits : ∀ x ∈ xs, x.fits
  xlen : xs.length = k
  blen : b.lives.length = n
  cap : n ≤ c
theorem PB.pf {B : Nat} {w : World} {b : Bas} {A : Option Addr} {n c : Nat} {A2 : Option Addr} {k c2 : Nat} {xs : List Holding} (h : PB B w b A n c A2 k c2 xs) : PF b n c k xs := ⟨h.sm, h.len, h.fits, h.xlen, h.blen, res_cap h.liv⟩
/-- .. of a drawn basis alone -/
structure BF (b : Bas) (n c : Nat) : Prop where
  sm : BasSmall b n
  blen : b.lives.length = n
  cap : n ≤ c
theorem PF.bf {b : Bas} {n c k : Nat} {xs : List Holding} (h : PF b n c k xs) : BF b n c := ⟨h.sm, h.blen, h.cap⟩
theorem BF.of {B : Nat} {w : World} {b : Bas} {A : Option Addr} {n c : Nat} (h : Res B w 2 1 A n c (intRows b.lives)) (hs : BasSmall b n) : BF b n c := ⟨hs, by have := h.len; rwa [intRows_length] at this, res_cap h⟩
theorem liesT_of {w : World} {A : Option Addr} {n : Nat} {xs : List Int} (hr : Rd w w.heap.size A 1 (intRows xs)) (hl : xs.length = n) (hn : n ≤ 1048576) (h : ∀ x ∈ xs, 0 ≤ x ∧ x ≤ 1000001) : LiesT w A n xs :=
  ⟨hl, hn, hr, fun x hx => by have := h x hx; unfold In64; omega⟩
theorem BF.basT {w : World} {b : Bas} {A : Option Addr} {n c : Nat} (h : BF b n c) (hr : Rd w w.heap.size A 1 (intRows b.lives)) : BasT w A n c b := by
  refine ⟨liesT_of hr h.blen (by have := h.sm.len; omega) h.sm.lives, h.cap, ?_, ?_⟩
  · have := h.sm.first; unfold In64; omega
  · have := h.sm.rate; unfold In64; omega
theorem tab_lives {f : Int} {xs : List Int} (h : tableB f xs = true) : ∀ x ∈ xs, 0 ≤ x ∧ x ≤ 1000001 := by
  intro x hx
  have T := table_ok h
  obtain ⟨k, hk, rfl⟩ := List.getElem_of_mem hx
  have e : lv xs k = xs[k] := lv_get (List.getElem?_eq_getElem hk)
  have h1 := T.nonneg k
  have h2 := T.most k
  omega
theorem tab_first {f : Int} {xs : List Int} (h : tableB f xs = true) : In64 f := by
  have T := table_ok h
  have h1 := T.first0; have h2 := T.first1
  unfold In64; omega
theorem tabT_good {w : World} {A : Option Addr} {n : Nat} {f : Int} {xs : List Int} (h : tableB f xs = true) (hr : Rd w w.heap.size A 1 (intRows xs)) (hl : xs.length = n) : LiesT w A n xs :=
  liesT_of hr hl (by have := (table_ok h).len1; omega) (tab_lives h)
theorem basT_good {w : World} {A : Option Addr} {n c : Nat} {b : Bas} (h : basisB b = true) (hr : Rd w w.heap.size A 1 (intRows b.lives)) (hl : b.lives.length = n) (hc : n ≤ c) : BasT w A n c b := by
  have B := basis_ok h
  have ht : tableB b.first b.lives = true := by simp only [basisB, Bool.and_eq_true] at h; exact h.1
  refine ⟨tabT_good ht hr hl, hc, tab_first ht, ?_⟩
  have h1 := B.rate0; have h2 := B.rate1
  unfold In64; omega
theorem chgT_len {f dt : Int} {xs : List Int} : (chgTP f xs dt).2.1.length ≤ 1048576 := by
  unfold chgTP
  split
  · rename_i h1
    split
    · have := chgL_small (dt := dt) h1
      show (chgL xs dt).length ≤ 1048576
      omega
    · simp
  · simp
theorem chgB_len {b : Bas} {r : Scenario} : (chgBP b r).1.lives.length ≤ 1048576 := by
  unfold chgBP
  split
  · rename_i h1
    split
    · have ht : tableB b.first b.lives = true := by simp only [basisB, Bool.and_eq_true] at h1; exact h1.1
      have := chgL_small (dt := r.death) ht
      show (chgL b.lives r.death).length ≤ 1048576
      omega
    · simp
  · simp
theorem scen_fit2 {r d : Int} (h : (-1000 ≤ r ∧ r ≤ 1000) ∧ (-1000 ≤ d ∧ d ≤ 1000)) : (⟨r, d⟩ : Scenario).fits := by
  show In64 r ∧ In64 d
  unfold In64; omega
theorem box2 {w : World} {tx ty : TypeId} {X Y : List Value} : Below w.heap.size w ((w.alloc (.cells X.toArray tx)).alloc (.cells Y.toArray ty)) ∧ Rd ((w.alloc (.cells X.toArray tx)).alloc (.cells Y.toArray ty)) ((w.alloc (.cells X.toArray tx)).alloc (.cells Y.toArray ty)).heap.size (some ⟨w.heap.size, 0, none⟩) X.length [X] ∧ Rd ((w.alloc (.cells X.toArray tx)).alloc (.cells Y.toArray ty)) ((w.alloc (.cells X.toArray tx)).alloc (.cells Y.toArray ty)).heap.size (some ⟨w.heap.size + 1, 0, none⟩) Y.length [Y] := by
  refine ⟨((Below.refl _ w).alloc (Nat.le_refl _) _).alloc (by simp) _, Blk.rd ((Blk.new w tx X.toArray).alloc _), ?_⟩
  have h := Blk.new (w.alloc (.cells X.toArray tx)) ty Y.toArray
  simp only [World.size_alloc] at h
  exact Blk.rd h
theorem box1 {w : World} {tx : TypeId} {X : List Value} : Below w.heap.size w (w.alloc (.cells X.toArray tx)) ∧ Rd (w.alloc (.cells X.toArray tx)) (w.alloc (.cells X.toArray tx)).heap.size (some ⟨w.heap.size, 0, none⟩) X.length [X] :=
  ⟨(Below.refl _ w).alloc (Nat.le_refl _) _, Blk.rd (Blk.new w tx X.toArray)⟩
end Go.Proofs.YtbjdbpdgacfcpaaGreat
end

/- The dice of the laws: what a number thrown is. -/
section
namespace Go.Proofs.YtbjdbpdgacfcpaaGreat
open Go.RowKit Go.BigFrame
theorem Rd.up {w : World} {B B' sz : Nat} {A : Option Addr} {rows : List (List Value)} (h : Rd w B A sz rows) (hB : B ≤ B') : Rd w B' A sz rows := by
  rcases h with h | ⟨ad, e, hb, hc⟩
  · exact .inl h
  · exact .inr ⟨ad, e, by omega, hc⟩
set_option maxHeartbeats 4000000 in
theorem laws_roll_any (K : Code) (hK : K.Ok) (seed : Int) (w : World) (hX : Rd w w.heap.size K.A 1 (byteRows K.bs)) :
    Calls Tryz.prog 34 #[.slice K.A K.n K.c, .int .u64 seed] w fun e w' => ∃ g : Nat, e = .returned (.pointer (some ⟨g, 0, none⟩)) ∧ w.heap.size ≤ g ∧ (∃ h : Int, Blk w' g 120 #[.slice K.A K.n K.c, .int .i64 0, .int .u64 h]) ∧ Below w.heap.size w w' := by
  obtain ⟨A, N, C, bs⟩ := K
  have hlen := hK.len
  have hsm := hK.small
  have HBY := Lib.hid hK.byte
  simp only at hlen hsm HBY hX
  have HX := Lib.hid hX; clear hX
  have HK := Lib.hid hK; clear hK
  have HL := Lib.hid hlen; clear hlen
  go_enter Tryz.func34, Tryz.ntmps34
  go_wp2
  generalize IntKind.u64.wrap (IntKind.u64.wrap (seed * 9341) + (N : Int)) = h0
  have HB0 := Lib.hid (show Below w.heap.size w (w.alloc (.cells #[.slice A N C, .int .i64 0, .int .u64 h0] 120)) from (Below.refl _ w).alloc (Nat.le_refl _) _)
  have HD0 := Lib.hid (Blk.new w 120 #[.slice A N C, .int .i64 0, .int .u64 h0])
  generalize w.alloc (.cells #[.slice A N C, .int .i64 0, .int .u64 h0] 120) = W0 at HB0 HD0 ⊢
  obtain ⟨G, hG⟩ : ∃ G, w.heap.size = G := ⟨_, rfl⟩
  rw [hG] at HD0 HX HB0 ⊢
  go_loopw [6] (fun i wr => ∃ (k : Nat) (h : Int), k ≤ N ∧ i = .int .i64 k ∧ Hid (Blk wr G 120 #[.slice A N C, .int .i64 0, .int .u64 h]) ∧ Hid (Below G w wr)) (fun i _ => N - (intOf i).toNat)
  case atStart => exact ⟨0, h0, by omega, rfl, HD0, HB0⟩
  case round =>
    obtain ⟨k, h, hk, rfl, HD, HB⟩ := hrel
    by_cases hlt : k < N
    · obtain ⟨x, hx⟩ := get_of_lt (xs := bs) (k := k) (by rw [HL.out]; exact hlt)
      obtain ⟨x0, x1⟩ := HBY.out x (List.mem_of_getElem? hx)
      obtain ⟨ad, rfl, had, hc⟩ := (HX.out.below HB.out).byte_at hx
      clear hx
      have hki : (k : Int) < (N : Int) := by omega
      have d2 : wr.cell? ⟨G, 2, none⟩ = some (.int .u64 h) := HD.out.cell 2
      have z2 : wr.frozen? ⟨G, 2, none⟩ = false := HD.out.frozen 2
      go_wp2
      go_region
      all_goals
        have HD1 := Lib.hid (show ∀ v : Int, Blk (wr.setCell ⟨G, 2, none⟩ (.int .u64 v)) G 120 #[.slice (some ad) N C, .int .i64 0, .int .u64 v] from fun v => by simpa using HD.out.set_ 2 (.int .u64 v))
        have HB1 := Lib.hid (fun v : Int => HB.out.setCell (p := ⟨G, 2, none⟩) (Nat.le_refl _) (.int .u64 v))
        go_wp2
        go_roundw
        case rel => exact ⟨k + 1, _, by omega, by go_num, Lib.hid (HD1.out _), Lib.hid (by first | exact HB1.out _ | exact (HB1.out _).drew)⟩
        case measure => simp [intOf]; omega
    · have hki : ¬ (k : Int) < (N : Int) := by omega
      go_wp2
      go_ret
      exact ⟨G, rfl, Nat.le_refl _, ⟨h, HD.out⟩, HB.out⟩
theorem and24 (a : Int) (h : 0 ≤ a ∧ a ≤ 18446744073709551615) : 0 ≤ bits .and .u64 a 16777215 ∧ bits .and .u64 a 16777215 ≤ 16777215 := by
  have h1 := bits_and_u64_nat a.toNat 16777215 (by omega) (by omega)
  rw [Int.toNat_of_nonneg h.1] at h1
  have h2 : a.toNat &&& 16777215 ≤ 16777215 := Nat.and_le_right
  have h3 : bits .and .u64 a 16777215 = ((a.toNat &&& 16777215 : Nat) : Int) := h1
  omega
theorem u64_wrap (z : Int) : 0 ≤ IntKind.u64.wrap z ∧ IntKind.u64.wrap z ≤ 18446744073709551615 := by
  have h : IntKind.u64.wrap z = z % 18446744073709551616 := by simp [IntKind.wrap, IntKind.bits, IntKind.signed]
  rw [h]; omega
theorem tmod_lt {x n : Int} (hx : 0 ≤ x) (hn : 1 ≤ n) : 0 ≤ x.tmod n ∧ x.tmod n < n := by
  rw [Int.tmod_eq_emod_of_nonneg hx]
  exact ⟨Int.emod_nonneg _ (by omega), Int.emod_lt_of_pos _ (by omega)⟩
set_option maxHeartbeats 4000000 in
theorem laws_below_any (K : Code) (hK : K.Ok) (g : Nat) (h n : Int) (w : World) (hX : Rd w g K.A 1 (byteRows K.bs)) (hD : Blk w g 120 #[.slice K.A K.n K.c, .int .i64 0, .int .u64 h]) (hn : 1 ≤ n) (hn2 : n ≤ 1000000) :
    Calls Tryz.prog 35 #[.pointer (some ⟨g, 0, none⟩), .int .i64 n] w fun e w' => ∃ x : Int, e = .returned (.int .i64 x) ∧ (0 ≤ x ∧ x < n) ∧ Below g w w' := by
  obtain ⟨A, N, C, bs⟩ := K
  have hlen := hK.len
  have HBY := Lib.hid hK.byte
  simp only at hlen HBY hX hD
  have HX := Lib.hid hX; clear hX
  have HK := Lib.hid hK; clear hK
  have HD := Lib.hid hD; clear hD
  have d2 : w.cell? ⟨g, 2, none⟩ = some (.int .u64 h) := HD.out.cell 2
  have z2 : w.frozen? ⟨g, 2, none⟩ = false := HD.out.frozen 2
  go_enter Tryz.func35, Tryz.ntmps35
  go_wp2
  obtain ⟨v0, v1⟩ := u64_wrap (IntKind.u64.wrap (h * 6364136223846793005) + 1442695040888963407)
  generalize IntKind.u64.wrap (IntKind.u64.wrap (h * 6364136223846793005) + 1442695040888963407) = v at v0 v1 ⊢
  obtain ⟨a0, a1⟩ := and24 (v / 8589934592) (by omega)
  generalize bits .and .u64 (v / 8589934592) 16777215 = a at a0 a1 ⊢
  rw [show wrap64 a = a from by unfold wrap64; omega]
  have HD1 := Lib.hid (show Blk (w.setCell ⟨g, 2, none⟩ (.int .u64 v)) g 120 #[.slice A N C, .int .i64 0, .int .u64 v] by simpa using HD.out.set_ 2 (.int .u64 v))
  have HX1 := Lib.hid (HX.out.below ((Below.refl g w).setCell (p := ⟨g, 2, none⟩) (Nat.le_refl _) (.int .u64 v)))
  have HB1 := Lib.hid ((Below.refl g w).setCell (p := ⟨g, 2, none⟩) (Nat.le_refl _) (.int .u64 v))
  clear d2 z2 v0 v1
  generalize w.setCell ⟨g, 2, none⟩ (.int .u64 v) = W1 at HD1 HX1 HB1 ⊢
  have d0 : W1.cell? ⟨g, 0, none⟩ = some (.slice A N C) := HD1.out.cell 0
  have d1 : W1.cell? ⟨g, 1, none⟩ = some (.int .i64 0) := HD1.out.cell 1
  have z1 : W1.frozen? ⟨g, 1, none⟩ = false := HD1.out.frozen 1
  by_cases hN : 0 < N
  rotate_left
  · have hNi : ¬ (0 : Int) < (N : Int) := by omega
    clear hN
    go_region
    all_goals
      go_wp2
      go_ret
      exact ⟨_, rfl, by first | exact tmod_lt a0 hn | exact ⟨Int.emod_nonneg _ (by omega), Int.emod_lt_of_pos _ (by omega)⟩, by first | exact HB1.out | exact HB1.out.drew⟩
  have hNi : (0 : Int) < (N : Int) := by omega
  obtain ⟨x, hx⟩ := get_of_lt (xs := bs) (k := 0) (by omega)
  obtain ⟨x0, x1⟩ := HBY.out x (List.mem_of_getElem? hx)
  obtain ⟨ad, rfl, had, hc⟩ := HX1.out.byte_at hx
  have hc0 : W1.cell? ad = some (.int .u8 x) := by have := hc; rwa [Addr.add_zero'] at this
  have hsum : 0 ≤ a + x ∧ a + x ≤ 100000000 := by omega
  clear hx
  go_region
  all_goals go_wp2
  all_goals go_region
  all_goals
    go_wp2
    go_ret
    refine ⟨_, rfl, by first | exact tmod_lt hsum.1 hn | exact ⟨Int.emod_nonneg _ (by omega), Int.emod_lt_of_pos _ (by omega)⟩, ?_⟩
    first | exact (HB1.out.setCell (p := ⟨g, 1, none⟩) (Nat.le_refl _) _) | exact (HB1.out.drew.drew.setCell (p := ⟨g, 1, none⟩) (Nat.le_refl _) _) | exact (HB1.out.drew.setCell (p := ⟨g, 1, none⟩) (Nat.le_refl _) _) | exact (HB1.out.drew.drew.setCell (p := ⟨g, 1, none⟩) (Nat.le_refl _) _).drew
end Go.Proofs.YtbjdbpdgacfcpaaGreat
end

/- The most deaths that a fund bears: the program's and the reference's contracts. -/
section
namespace Go.Proofs.YtbjdbpdgacfcpaaGreat
open Go.RowKit Go.BigFrame

def mostDL (b : Bas) (xs : List Holding) (f : Int) : Nat → Int → Int → Int
  | 0, m, _ => m
  | k + 1, m, d => if (reqFor b xs ⟨0, d⟩ f).2 = 0 ∧ (reqFor b xs ⟨0, d⟩ f).1 ≤ f then mostDL b xs f k d (d + 100) else m
def mostP (b : Bas) (xs : List Holding) (f : Int) : Int × Int :=
  if (reqFor b xs ⟨0, 0⟩ f).2 = 0 then (if (reqFor b xs ⟨0, 0⟩ f).1 ≤ f then (mostDL b xs f 5 0 100, 0) else (0, 4)) else (0, (reqFor b xs ⟨0, 0⟩ f).2)
theorem most_bad {b : Bas} {xs : List Holding} {f V1 V2 : Int} (h : reqFor b xs ⟨0, 0⟩ f = (V1, V2)) (hc : ¬ V2 = 0) : mostP b xs f = (0, V2) := by unfold mostP; rw [h]; simp [hc]
theorem most_none {b : Bas} {xs : List Holding} {f V1 : Int} (h : reqFor b xs ⟨0, 0⟩ f = (V1, 0)) (hc : ¬ V1 ≤ f) : mostP b xs f = (0, 4) := by unfold mostP; rw [h]; simp [hc]
theorem most_some {b : Bas} {xs : List Holding} {f V1 : Int} (h : reqFor b xs ⟨0, 0⟩ f = (V1, 0)) (hc : V1 ≤ f) : mostP b xs f = (mostDL b xs f 5 0 100, 0) := by unfold mostP; rw [h]; simp [hc]
theorem mostDL_stop {b : Bas} {xs : List Holding} {f d V1 V2 m : Int} (k : Nat) (h : reqFor b xs ⟨0, d⟩ f = (V1, V2)) (hc : ¬ (V2 = 0 ∧ V1 ≤ f)) : mostDL b xs f (k + 1) m d = m := by unfold mostDL; rw [h]; exact if_neg hc
theorem mostDL_on {b : Bas} {xs : List Holding} {f d V1 m : Int} (k : Nat) (h : reqFor b xs ⟨0, d⟩ f = (V1, 0)) (hc : V1 ≤ f) : mostDL b xs f (k + 1) m d = mostDL b xs f k d (d + 100) := by
  conv => lhs; unfold mostDL
  rw [h]; exact if_pos ⟨rfl, hc⟩
theorem reqFor_code {b : Bas} {xs : List Holding} {r : Scenario} {f V1 V2 : Int} (h : reqFor b xs r f = (V1, V2)) : (0 ≤ V1 ∧ V1 ≤ 4000000000000000) ∧ (V2 = 0 ∨ V2 = 1 ∨ V2 = 2 ∨ V2 = 5) := by
  have h1 := reqIn_bound b xs r (inR f 0 1000000000000)
  unfold reqFor at h
  rw [h] at h1
  exact ⟨h1.1, h1.2.1⟩
theorem reqFor_true {b : Bas} {xs : List Holding} {r : Scenario} {f V1 : Int} (s : Scenario) (h : reqFor b xs r f = (V1, 0)) : reqIn b xs s true = reqFor b xs s f := by
  have h1 := (reqIn_bound b xs r (inR f 0 1000000000000)).2.2
  cases hi : inR f 0 1000000000000
  · unfold reqFor at h; rw [hi] at h h1; rw [h] at h1; exact absurd rfl (h1 rfl)
  · unfold reqFor; rw [hi]
theorem scen_fits {d : Int} (h : 0 ≤ d ∧ d ≤ 1000) : (⟨0, d⟩ : Scenario).fits := by
  simp [Scenario.fits, In64]; omega


set_option maxRecDepth 100000 in
set_option maxHeartbeats 6000000 in
theorem impl_MostDeaths_any (b : Bas) (A : Option Addr) (n cap : Nat) (H : Option Addr) (m hcap : Nat) (xs : List Holding) (f : Int) (w : World) (hB : BasT w A n cap b) (hl : xs.length = m) (hm : m ≤ 1048576) (hX : Rd w w.heap.size H 7 (holdingRows xs)) (hf : ∀ x ∈ xs, x.fits) (_hf : In64 f) :
    Calls Tryz.prog 32 #[.agg #[.int .i64 b.first, .slice A n cap, .int .i64 b.rate], .slice H m hcap, .int .i64 f] w fun e w' => e = .returned (.tuple #[.int .i64 (mostP b xs f).1, .int .i64 (mostP b xs f).2]) ∧ Below w.heap.size w w' := by
  have hbw : Below w.heap.size w (w.alloc (.cells #[.int .i64 b.first, .slice A n cap, .int .i64 b.rate] 28)) := (Below.refl _ w).alloc (Nat.le_refl _) _
  have HB := Lib.hid (Blk.new w 28 #[.int .i64 b.first, .slice A n cap, .int .i64 b.rate])
  have HBT := Lib.hid (hB.past hbw); clear hB
  have HX := Lib.hid (hX.past hbw); clear hX
  have HL := Lib.hid hl; clear hl
  have HF := Lib.hid hf; clear hf
  have HBW := Lib.hid hbw; clear hbw
  go_enter Tryz.func32, Tryz.ntmps32
  go_wp2
  go_loopw [8, 9] (fun u v wr => ∃ (k : Nat) (mo d : Int), u = .int .i64 mo ∧ v = .int .i64 d ∧ d + 100 * (k : Int) = 600 ∧ ((k = 6 ∧ mo = -1) ∨ (k ≤ 5 ∧ 0 ≤ mo ∧ mo ≤ 500 ∧ Hid (mostP b xs f = (mostDL b xs f k mo d, 0)))) ∧ Below (w.heap.size + 1) (w.alloc (.cells #[.int .i64 b.first, .slice A n cap, .int .i64 b.rate] 28)) wr) (fun _ v _ => (600 - intOf v).toNat)
  case atStart => exact ⟨6, -1, 0, rfl, rfl, by omega, .inl ⟨rfl, rfl⟩, (Below.refl _ _)⟩
  case round =>
    obtain ⟨k, mo, d, rfl, rfl, hd, hcase, hb0⟩ := hrel
    have hb : Below (w.alloc (.cells #[.int .i64 b.first, .slice A n cap, .int .i64 b.rate] 28)).heap.size (w.alloc (.cells #[.int .i64 b.first, .slice A n cap, .int .i64 b.rate] 28)) wr := by rw [World.size_alloc]; exact hb0
    have hbr : Below (w.alloc (.cells #[.int .i64 b.first, .slice A n cap, .int .i64 b.rate] 28)).heap.size (w.alloc (.cells #[.int .i64 b.first, .slice A n cap, .int .i64 b.rate] 28)) wr := hb
    have hbw0 := HBW.out.trans (hbr.mono HBW.out.size)
    have HBTr := Lib.hid (HBT.out.past hbr)
    have HXr := Lib.hid (HX.out.past hbr)
    have hcBr := Lib.hid (Blk.agg (cs := [.int .i64 b.first, .slice A n cap, .int .i64 b.rate]) (HB.out.below' hbr) 0 [.int .i64 b.first, .slice A n cap, .int .i64 b.rate] rfl)
    obtain ⟨V, hV⟩ : ∃ V, reqFor b xs ⟨0, d⟩ f = V := ⟨_, rfl⟩
    obtain ⟨V1, V2⟩ := V
    obtain ⟨⟨v1, v2⟩, hcode⟩ := reqFor_code hV
    rcases hcase with ⟨rfl, rfl⟩ | ⟨hk5, m0, m1, HQ⟩
    · have hd0 : d = 0 := by omega
      subst hd0
      have HSF := Lib.hid (scen_fits (d := 0) (by omega))
      by_cases hc : V2 = 0
      rotate_left
      · have Q := Lib.hid (most_bad hV hc)
        have HV := Lib.hid hV; clear hV
        have hz : (V2 == 0) = false := by simp [hc]
        have hz2 : (V2 != 0) = true := by simp [hc]
        clear hc hcode
        go_wp2_with (first | (refine wpList_load_agg rfl 28 _ rfl ⟨w.heap.size, 0, none⟩ rfl [.int .i64 b.first, .slice A n cap, .int .i64 b.rate] hcBr.out _ Tryz.underlying28 rfl Bas.size ?_) | (go_at_call 100; refine (impl_requiredFor_any b A n cap H m hcap xs ⟨0, 0⟩ f _ HBTr.out HL.out hm HXr.out HF.out (HSF.out)).mono ?_; rw [HV.out]; rintro e w2 ⟨rfl, hb2⟩))
        go_ret2
        exact ⟨by rw [Q.out]; rfl, hbw0.trans (hb2.mono hbw0.size)⟩
      subst hc
      by_cases hle : V1 ≤ f
      · have Q := Lib.hid (most_some hV hle)
        have HV := Lib.hid hV; clear hV
        go_wp2_with (first | (refine wpList_load_agg rfl 28 _ rfl ⟨w.heap.size, 0, none⟩ rfl [.int .i64 b.first, .slice A n cap, .int .i64 b.rate] hcBr.out _ Tryz.underlying28 rfl Bas.size ?_) | (go_at_call 100; refine (impl_requiredFor_any b A n cap H m hcap xs ⟨0, 0⟩ f _ HBTr.out HL.out hm HXr.out HF.out (HSF.out)).mono ?_; rw [HV.out]; rintro e w2 ⟨rfl, hb2⟩))
        go_round
        case rel => exact ⟨5, 0, 100, rfl, rfl, by omega, .inr ⟨by omega, by omega, by omega, Q⟩, hb0.trans (hb2.mono (by have := hb0.size; simpa using this))⟩
        case measure => simp [intOf]
      · have Q := Lib.hid (most_none hV hle)
        have HV := Lib.hid hV; clear hV
        go_wp2_with (first | (refine wpList_load_agg rfl 28 _ rfl ⟨w.heap.size, 0, none⟩ rfl [.int .i64 b.first, .slice A n cap, .int .i64 b.rate] hcBr.out _ Tryz.underlying28 rfl Bas.size ?_) | (go_at_call 100; refine (impl_requiredFor_any b A n cap H m hcap xs ⟨0, 0⟩ f _ HBTr.out HL.out hm HXr.out HF.out (HSF.out)).mono ?_; rw [HV.out]; rintro e w2 ⟨rfl, hb2⟩))
        go_ret2
        exact ⟨by rw [Q.out]; rfl, hbw0.trans (hb2.mono hbw0.size)⟩
    rcases k with _ | k
    · have Q := Lib.hid (show mostP b xs f = (mo, 0) from HQ.out)
      clear hV hcode v1 v2
      go_wp2
      go_ret2
      exact ⟨by rw [Q.out]; rfl, hbw0⟩
    have hdb : 100 ≤ d ∧ d ≤ 500 := by omega
    have hdz : (d == 0) = false := by simp; omega
    have HSF := Lib.hid (scen_fits (d := d) (by omega))
    by_cases hc : V2 = 0
    rotate_left
    · have Q := Lib.hid (show mostP b xs f = (mo, 0) by rw [HQ.out, mostDL_stop k hV (fun h => hc h.1)])
      have HV := Lib.hid hV; clear hV
      have hz : (V2 == 0) = false := by simp [hc]
      have hz2 : (V2 != 0) = true := by simp [hc]
      clear hc hcode
      go_wp2_with (first | (refine wpList_load_agg rfl 28 _ rfl ⟨w.heap.size, 0, none⟩ rfl [.int .i64 b.first, .slice A n cap, .int .i64 b.rate] hcBr.out _ Tryz.underlying28 rfl Bas.size ?_) | (go_at_call 100; refine (impl_requiredFor_any b A n cap H m hcap xs ⟨0, d⟩ f _ HBTr.out HL.out hm HXr.out HF.out (HSF.out)).mono ?_; rw [HV.out]; rintro e w2 ⟨rfl, hb2⟩))
      go_ret2
      exact ⟨by rw [Q.out]; rfl, hbw0.trans (hb2.mono hbw0.size)⟩
    subst hc
    by_cases hle : V1 ≤ f
    · have Q := Lib.hid (show mostP b xs f = (mostDL b xs f k d (d + 100), 0) by rw [HQ.out, mostDL_on k hV hle])
      have HV := Lib.hid hV; clear hV
      go_wp2_with (first | (refine wpList_load_agg rfl 28 _ rfl ⟨w.heap.size, 0, none⟩ rfl [.int .i64 b.first, .slice A n cap, .int .i64 b.rate] hcBr.out _ Tryz.underlying28 rfl Bas.size ?_) | (go_at_call 100; refine (impl_requiredFor_any b A n cap H m hcap xs ⟨0, d⟩ f _ HBTr.out HL.out hm HXr.out HF.out (HSF.out)).mono ?_; rw [HV.out]; rintro e w2 ⟨rfl, hb2⟩))
      go_round
      case rel => exact ⟨k, d, d + 100, rfl, by first | rfl | go_num, by omega, .inr ⟨by omega, by omega, by omega, Q⟩, hb0.trans (hb2.mono (by have := hb0.size; simpa using this))⟩
      case measure => simp [intOf]; omega
    · have Q := Lib.hid (show mostP b xs f = (mo, 0) by rw [HQ.out, mostDL_stop k hV (fun h => hle h.2)])
      have HV := Lib.hid hV; clear hV
      go_wp2_with (first | (refine wpList_load_agg rfl 28 _ rfl ⟨w.heap.size, 0, none⟩ rfl [.int .i64 b.first, .slice A n cap, .int .i64 b.rate] hcBr.out _ Tryz.underlying28 rfl Bas.size ?_) | (go_at_call 100; refine (impl_requiredFor_any b A n cap H m hcap xs ⟨0, d⟩ f _ HBTr.out HL.out hm HXr.out HF.out (HSF.out)).mono ?_; rw [HV.out]; rintro e w2 ⟨rfl, hb2⟩))
      go_ret2
      exact ⟨by rw [Q.out]; rfl, hbw0.trans (hb2.mono hbw0.size)⟩


set_option maxRecDepth 100000 in
set_option maxHeartbeats 6000000 in
theorem spec_MostDeaths_any (b : Bas) (A : Option Addr) (n cap : Nat) (H : Option Addr) (m hcap : Nat) (xs : List Holding) (f : Int) (w : World) (hB : BasT w A n cap b) (hl : xs.length = m) (hm : m ≤ 1048576) (hX : Rd w w.heap.size H 7 (holdingRows xs)) (hf : ∀ x ∈ xs, x.fits) (_hf : In64 f) :
    Calls Tryz.prog 33 #[.agg #[.int .i64 b.first, .slice A n cap, .int .i64 b.rate], .slice H m hcap, .int .i64 f] w fun e w' => e = .returned (.tuple #[.int .i64 (mostP b xs f).1, .int .i64 (mostP b xs f).2]) ∧ Below w.heap.size w w' := by
  have hbw : Below w.heap.size w (w.alloc (.cells #[.int .i64 b.first, .slice A n cap, .int .i64 b.rate] 28)) := (Below.refl _ w).alloc (Nat.le_refl _) _
  have HB := Lib.hid (Blk.new w 28 #[.int .i64 b.first, .slice A n cap, .int .i64 b.rate])
  have HBT := Lib.hid (hB.past hbw); clear hB
  have HX := Lib.hid (hX.past hbw); clear hX
  have HL := Lib.hid hl; clear hl
  have HF := Lib.hid hf; clear hf
  have HBW := Lib.hid hbw; clear hbw
  have hcB := Lib.hid (Blk.agg_past (cs := [.int .i64 b.first, .slice A n cap, .int .i64 b.rate]) HB.out 0 [.int .i64 b.first, .slice A n cap, .int .i64 b.rate] rfl)
  have HSF0 := Lib.hid (scen_fits (d := 0) (by omega))
  obtain ⟨V, hV⟩ : ∃ V, reqFor b xs ⟨0, 0⟩ f = V := ⟨_, rfl⟩
  obtain ⟨V1, V2⟩ := V
  obtain ⟨⟨v1, v2⟩, hcode⟩ := reqFor_code hV
  have HV := Lib.hid (show reqIn b xs ⟨0, 0⟩ (inR f 0 1000000000000) = (V1, V2) from hV)
  have HV' := Lib.hid hV
  by_cases hc : V2 = 0
  rotate_left
  · have Q := Lib.hid (most_bad hV hc)
    clear hV
    have hz : (V2 == 0) = false := by simp [hc]
    have hz2 : (V2 != 0) = true := by simp [hc]
    clear hc hcode
    go_enter Tryz.func33, Tryz.ntmps33
    go_wp2
    refine wp_region_past (by kernel_rfl) (by kernel_rfl) ?_
    repeat (first | (go_big_quiet_want; (first | (first | (refine quiet_load_agg 28 _ rfl ⟨w.heap.size, 0, none⟩ rfl [.int .i64 b.first, .slice A n cap, .int .i64 b.rate] hcB.out _ Tryz.underlying28 rfl Bas.size ?_))); go_simp; go_big_quiet_on) | go_big_quiet_step ((first | (go_at_call 101; exact past_same (spec_l21Fund_any f _)) | (go_at_call 78; exact past_call ((spec_l21Required_any b A n cap H m hcap xs ⟨0, 0⟩ (inR f 0 1000000000000) _ (HBT.out.at_past _) HL.out hm (HX.out.past (Subtype.property _)) HF.out HSF0.out).mono (by rw [HV.out]; exact fun _ _ h => h))))))
    refine wpQuiet_nil ?_
    rintro _ ⟨y, rfl⟩
    have hb1 : Below (w.alloc (.cells #[.int .i64 b.first, .slice A n cap, .int .i64 b.rate] 28)).heap.size (w.alloc (.cells #[.int .i64 b.first, .slice A n cap, .int .i64 b.rate] 28)) y.1 := y.2
    have hbw1 := HBW.out.trans (hb1.mono HBW.out.size)
    go_wp2
    go_ret2
    exact ⟨by rw [Q.out]; rfl, hbw1⟩
  subst hc
  by_cases hle : V1 ≤ f
  rotate_left
  · have Q := Lib.hid (most_none hV hle)
    clear hV
    go_enter Tryz.func33, Tryz.ntmps33
    go_wp2
    refine wp_region_past (by kernel_rfl) (by kernel_rfl) ?_
    repeat (first | (go_big_quiet_want; (first | (first | (refine quiet_load_agg 28 _ rfl ⟨w.heap.size, 0, none⟩ rfl [.int .i64 b.first, .slice A n cap, .int .i64 b.rate] hcB.out _ Tryz.underlying28 rfl Bas.size ?_))); go_simp; go_big_quiet_on) | go_big_quiet_step ((first | (go_at_call 101; exact past_same (spec_l21Fund_any f _)) | (go_at_call 78; exact past_call ((spec_l21Required_any b A n cap H m hcap xs ⟨0, 0⟩ (inR f 0 1000000000000) _ (HBT.out.at_past _) HL.out hm (HX.out.past (Subtype.property _)) HF.out HSF0.out).mono (by rw [HV.out]; exact fun _ _ h => h))))))
    refine wpQuiet_nil ?_
    rintro _ ⟨y, rfl⟩
    have hb1 : Below (w.alloc (.cells #[.int .i64 b.first, .slice A n cap, .int .i64 b.rate] 28)).heap.size (w.alloc (.cells #[.int .i64 b.first, .slice A n cap, .int .i64 b.rate] 28)) y.1 := y.2
    have hbw1 := HBW.out.trans (hb1.mono HBW.out.size)
    go_wp2
    go_ret2
    exact ⟨by rw [Q.out]; rfl, hbw1⟩
  have Q := Lib.hid (most_some hV hle)
  clear hV
  go_enter Tryz.func33, Tryz.ntmps33
  go_wp2
  refine wp_region_past (by kernel_rfl) (by kernel_rfl) ?_
  repeat (first | (go_big_quiet_want; (first | (first | (refine quiet_load_agg 28 _ rfl ⟨w.heap.size, 0, none⟩ rfl [.int .i64 b.first, .slice A n cap, .int .i64 b.rate] hcB.out _ Tryz.underlying28 rfl Bas.size ?_))); go_simp; go_big_quiet_on) | go_big_quiet_step ((first | (go_at_call 101; exact past_same (spec_l21Fund_any f _)) | (go_at_call 78; exact past_call ((spec_l21Required_any b A n cap H m hcap xs ⟨0, 0⟩ (inR f 0 1000000000000) _ (HBT.out.at_past _) HL.out hm (HX.out.past (Subtype.property _)) HF.out HSF0.out).mono (by rw [HV.out]; exact fun _ _ h => h))))))
  refine wpQuiet_nil ?_
  rintro _ ⟨y, rfl⟩
  have hb1 : Below (w.alloc (.cells #[.int .i64 b.first, .slice A n cap, .int .i64 b.rate] 28)).heap.size (w.alloc (.cells #[.int .i64 b.first, .slice A n cap, .int .i64 b.rate] 28)) y.1 := y.2
  have hbw1 := HBW.out.trans (hb1.mono HBW.out.size)
  go_wp2
  have HBT1 := Lib.hid (HBT.out.past hb1)
  have HX1 := Lib.hid (HX.out.past hb1)
  have HB1 := Lib.hid (HB.out.below' hb1)
  have HBW1 := Lib.hid hbw1
  clear hb1 hbw1
  obtain ⟨y, hy⟩ := y
  simp only at HBT1 HX1 HB1 HBW1 ⊢
  go_loopw [10, 11] (fun u v wr => ∃ (k : Nat) (mo d : Int), u = .int .i64 mo ∧ v = .int .i64 d ∧ d + 100 * (k : Int) = 600 ∧ k ≤ 5 ∧ 0 ≤ mo ∧ mo ≤ 500 ∧ Hid (mostP b xs f = (mostDL b xs f k mo d, 0)) ∧ Below y.heap.size y wr) (fun _ v _ => (600 - intOf v).toNat)
  case atStart => exact ⟨5, 0, 100, rfl, rfl, by omega, by omega, by omega, by omega, Q, (Below.refl _ _)⟩
  case round =>
    obtain ⟨k, mo, d, rfl, rfl, hd, hk5, m0, m1, HQ, hbr⟩ := hrel
    have hbw0 := HBW1.out.trans (hbr.mono HBW1.out.size)
    have HBTr := Lib.hid (HBT1.out.past hbr)
    have HXr := Lib.hid (HX1.out.past hbr)
    have hcBr := Lib.hid (Blk.agg (cs := [.int .i64 b.first, .slice A n cap, .int .i64 b.rate]) (HB1.out.below' hbr) 0 [.int .i64 b.first, .slice A n cap, .int .i64 b.rate] rfl)
    rcases k with _ | k
    · have Q := Lib.hid (show mostP b xs f = (mo, 0) from HQ.out)
      go_wp2
      go_ret2
      exact ⟨by rw [Q.out]; rfl, hbw0⟩
    obtain ⟨U, hU⟩ : ∃ U, reqFor b xs ⟨0, d⟩ f = U := ⟨_, rfl⟩
    obtain ⟨U1, U2⟩ := U
    obtain ⟨⟨u1, u2⟩, hcode2⟩ := reqFor_code hU
    have HU := Lib.hid (show reqIn b xs ⟨0, d⟩ true = (U1, U2) by rw [reqFor_true ⟨0, d⟩ HV'.out, hU])
    have hdb : 100 ≤ d ∧ d ≤ 500 := by omega
    have HSF := Lib.hid (scen_fits (d := d) (by omega))
    by_cases hc : U2 = 0
    rotate_left
    · have Q := Lib.hid (show mostP b xs f = (mo, 0) by rw [HQ.out, mostDL_stop k hU (fun h => hc h.1)])
      clear hU
      have hz : (U2 == 0) = false := by simp [hc]
      have hz2 : (U2 != 0) = true := by simp [hc]
      clear hc hcode2
      go_wp2_with (first | (refine wpList_load_agg rfl 28 _ rfl ⟨w.heap.size, 0, none⟩ rfl [.int .i64 b.first, .slice A n cap, .int .i64 b.rate] hcBr.out _ Tryz.underlying28 rfl Bas.size ?_) | (go_at_call 78; refine (spec_l21Required_any b A n cap H m hcap xs ⟨0, d⟩ true _ HBTr.out HL.out hm HXr.out HF.out (HSF.out)).mono ?_; rw [HU.out]; rintro e w2 ⟨rfl, hb2⟩))
      go_ret2
      exact ⟨by rw [Q.out]; rfl, hbw0.trans (hb2.mono hbw0.size)⟩
    subst hc
    by_cases hle2 : U1 ≤ f
    · have Q := Lib.hid (show mostP b xs f = (mostDL b xs f k d (d + 100), 0) by rw [HQ.out, mostDL_on k hU hle2])
      clear hU
      go_wp2_with (first | (refine wpList_load_agg rfl 28 _ rfl ⟨w.heap.size, 0, none⟩ rfl [.int .i64 b.first, .slice A n cap, .int .i64 b.rate] hcBr.out _ Tryz.underlying28 rfl Bas.size ?_) | (go_at_call 78; refine (spec_l21Required_any b A n cap H m hcap xs ⟨0, d⟩ true _ HBTr.out HL.out hm HXr.out HF.out (HSF.out)).mono ?_; rw [HU.out]; rintro e w2 ⟨rfl, hb2⟩))
      go_round
      case rel => exact ⟨k, d, d + 100, rfl, by first | rfl | go_num, by omega, by omega, by omega, by omega, Q, hbr.trans (hb2.mono hbr.size)⟩
      case measure => simp [intOf]; omega
    · have Q := Lib.hid (show mostP b xs f = (mo, 0) by rw [HQ.out, mostDL_stop k hU (fun h => hle2 h.2)])
      clear hU
      go_wp2_with (first | (refine wpList_load_agg rfl 28 _ rfl ⟨w.heap.size, 0, none⟩ rfl [.int .i64 b.first, .slice A n cap, .int .i64 b.rate] hcBr.out _ Tryz.underlying28 rfl Bas.size ?_) | (go_at_call 78; refine (spec_l21Required_any b A n cap H m hcap xs ⟨0, d⟩ true _ HBTr.out HL.out hm HXr.out HF.out (HSF.out)).mono ?_; rw [HU.out]; rintro e w2 ⟨rfl, hb2⟩))
      go_ret2
      exact ⟨by rw [Q.out]; rfl, hbw0.trans (hb2.mono hbw0.size)⟩
end Go.Proofs.YtbjdbpdgacfcpaaGreat
end

/- Plain laws of solvency: missing money makes a fund enough, the most deaths are borne, no scenario requires more than the worst one. -/
section
namespace Go.Proofs.YtbjdbpdgacfcpaaGreat

theorem pair_zero {p : Int × Int} (h : p.2 = 0) : p = (p.1, 0) := by cases p; simp at h; simp [h]
theorem triple_zero {p : Int × Int × Int} (h : p.2.2 = 0) : p = (p.1, p.2.1, 0) := by obtain ⟨a, b, c⟩ := p; simp at h; simp [h]

theorem reqFor_reqP {b : Bas} {xs : List Holding} {r : Scenario} {f V1 : Int} (h : reqFor b xs r f = (V1, 0)) : reqP b xs r = (V1, 0) := by
  have := reqFor_true r h
  unfold reqP
  rw [this, h]
theorem miss_good {b : Bas} {xs : List Holding} {r : Scenario} {f : Int} (h : (missP b xs r f).2 = 0) : (reqP b xs r).2 = 0 ∧ (missP b xs r f).1 = max 0 ((reqP b xs r).1 - f) ∧ (0 ≤ f ∧ f ≤ 1000000000000) := by
  unfold missP at h ⊢
  by_cases h1 : (reqFor b xs r f).2 = 0
  · rw [if_pos h1]
    have e : reqFor b xs r f = ((reqFor b xs r f).1, 0) := pair_zero h1
    have h2 := reqFor_reqP e
    rw [h2]
    exact ⟨rfl, rfl, reqFor_fund h1⟩
  · rw [if_neg h1] at h; exact absurd h h1
theorem solv_good {b : Bas} {xs : List Holding} {r : Scenario} {f : Int} (h : (solvP b xs r f).2 = 0) : (reqP b xs r).2 = 0 ∧ (0 ≤ (solvP b xs r f).1 ∧ (solvP b xs r f).1 ≤ 1000000000000) ∧ (solvP b xs r f).1 * (reqP b xs r).1 ≤ 1000 * f := by
  unfold solvP at h ⊢
  by_cases h1 : (reqFor b xs r f).2 = 0
  · have e : reqFor b xs r f = ((reqFor b xs r f).1, 0) := pair_zero h1
    have h2 := reqFor_reqP e
    have hb := (reqFor_code e).1
    obtain ⟨f0, f1⟩ := reqFor_fund h1
    rw [if_pos h1] at h ⊢
    by_cases h3 : (reqFor b xs r f).1 = 0
    · rw [if_pos h3] at h; simp at h
    · rw [if_neg h3] at h ⊢
      by_cases h4 : f * 1000 / (reqFor b xs r f).1 ≤ 1000000000000
      · rw [if_pos h4, h2]
        refine ⟨rfl, ⟨Int.ediv_nonneg (by omega) hb.1, h4⟩, ?_⟩
        have := Int.ediv_mul_le (f * 1000) h3
        simp only
        omega
      · rw [if_neg h4] at h; simp at h
  · rw [if_neg h1] at h; exact absurd h h1
theorem mostDL_good {b : Bas} {xs : List Holding} {f : Int} : ∀ (k : Nat) (m d : Int), ((reqFor b xs ⟨0, m⟩ f).2 = 0 ∧ (reqFor b xs ⟨0, m⟩ f).1 ≤ f) → (0 ≤ m ∧ m ≤ 500) → (0 ≤ d ∧ d + 100 * (k : Int) ≤ 600) →
    ((reqFor b xs ⟨0, mostDL b xs f k m d⟩ f).2 = 0 ∧ (reqFor b xs ⟨0, mostDL b xs f k m d⟩ f).1 ≤ f) ∧ (0 ≤ mostDL b xs f k m d ∧ mostDL b xs f k m d ≤ 500)
  | 0, m, d, h, hm, _ => ⟨h, hm⟩
  | k + 1, m, d, h, hm, hd => by
    unfold mostDL
    by_cases hc : (reqFor b xs ⟨0, d⟩ f).2 = 0 ∧ (reqFor b xs ⟨0, d⟩ f).1 ≤ f
    · rw [if_pos hc]
      exact mostDL_good k d (d + 100) hc (by omega) (by omega)
    · rw [if_neg hc]; exact ⟨h, hm⟩
theorem most_good {b : Bas} {xs : List Holding} {f : Int} (h : (mostP b xs f).2 = 0) : (reqP b xs ⟨0, (mostP b xs f).1⟩).2 = 0 ∧ (reqP b xs ⟨0, (mostP b xs f).1⟩).1 ≤ f ∧ (0 ≤ (mostP b xs f).1 ∧ (mostP b xs f).1 ≤ 500) := by
  unfold mostP at h ⊢
  by_cases h1 : (reqFor b xs ⟨0, 0⟩ f).2 = 0
  · rw [if_pos h1] at h ⊢
    by_cases h2 : (reqFor b xs ⟨0, 0⟩ f).1 ≤ f
    · rw [if_pos h2]
      obtain ⟨⟨h3, h4⟩, h5⟩ := mostDL_good (b := b) (xs := xs) (f := f) 5 0 100 ⟨h1, h2⟩ (by omega) (by omega)
      have e := reqFor_reqP (show reqFor b xs ⟨0, mostDL b xs f 5 0 100⟩ f = ((reqFor b xs ⟨0, mostDL b xs f 5 0 100⟩ f).1, 0) from pair_zero h3)
      simp only
      rw [e]
      exact ⟨rfl, h4, h5⟩
    · rw [if_neg h2] at h; simp at h
  · rw [if_neg h1] at h; exact absurd h h1
theorem worst_inv {b : Bas} {xs : List Holding} {ss : List Scenario} {x y : Int} : ∀ (n k : Nat) (best most : Int), k + n = ss.length →
    (∀ j : Nat, j < k → ∀ s, ss[j]? = some s → (reqP b xs s).2 = 0 ∧ (reqP b xs s).1 ≤ most) →
    (k = 0 ∨ ∃ (j : Nat) (s : Scenario), best = (j : Int) ∧ ss[j]? = some s ∧ reqP b xs s = (most, 0)) → (k = 0 → most = -1) →
    worstL b xs (ss.drop k) (k : Int) best most = (x, y, 0) →
    (∀ j : Nat, ∀ s, ss[j]? = some s → (reqP b xs s).2 = 0 ∧ (reqP b xs s).1 ≤ y) ∧ (ss.length = 0 ∨ ∃ (j : Nat) (s : Scenario), x = (j : Int) ∧ ss[j]? = some s ∧ reqP b xs s = (y, 0))
  | 0, k, best, most, hk, hall, hb, _, h => by
    rw [worst_end (k : Int) best most (by omega : ss.length = k)] at h
    simp only [Prod.mk.injEq, and_true] at h
    obtain ⟨rfl, rfl⟩ := h
    refine ⟨fun j s hs => hall j (by have := (List.getElem?_eq_some_iff.1 hs).1; omega) s hs, ?_⟩
    rcases hb with hb | hb
    · exact .inl (by omega)
    · exact .inr hb
  | n + 1, k, best, most, hk, hall, hb, h0, h => by
    obtain ⟨s, hs⟩ := get_of_lt (xs := ss) (k := k) (by omega)
    obtain ⟨V, hV⟩ : ∃ V, reqP b xs s = V := ⟨_, rfl⟩
    obtain ⟨V1, V2⟩ := V
    obtain ⟨⟨v0, v1⟩, _⟩ := reqP_code hV
    by_cases hz : V2 = 0
    · subst hz
      by_cases hm : most < V1
      · rw [worst_more _ _ _ hs hV hm] at h
        refine worst_inv n (k + 1) k V1 (by omega) (fun j hj t ht => ?_) (.inr ⟨k, s, rfl, hs, hV⟩) (fun h9 => by omega) (by simpa using h)
        rcases Nat.lt_or_ge j k with h9 | h9
        · have := hall j h9 t ht; omega
        · rw [show j = k by omega, hs] at ht; injection ht with ht; subst ht; rw [hV]; exact ⟨rfl, Int.le_refl _⟩
      · rw [worst_less _ _ _ hs hV hm] at h
        have hk0 : k ≠ 0 := fun h9 => by have := h0 h9; omega
        refine worst_inv n (k + 1) best most (by omega) (fun j hj t ht => ?_) (.inr (hb.resolve_left hk0)) (fun h9 => by omega) (by simpa using h)
        rcases Nat.lt_or_ge j k with h9 | h9
        · exact hall j h9 t ht
        · rw [show j = k by omega, hs] at ht; injection ht with ht; subst ht; rw [hV]; exact ⟨rfl, by omega⟩
    · rw [worst_bad _ _ _ hs hV hz] at h
      simp only [Prod.mk.injEq] at h
      exact absurd h.2.2 hz
theorem worst_good {b : Bas} {xs : List Holding} {ss : List Scenario} (h : (worstP b xs ss).2.2 = 0) :
    (∀ j : Nat, ∀ s, ss[j]? = some s → (reqP b xs s).2 = 0 ∧ (reqP b xs s).1 ≤ (worstP b xs ss).2.1) ∧ (1 ≤ ss.length ∧ ss.length ≤ 20) ∧ ∃ (j : Nat) (s : Scenario), (worstP b xs ss).1 = (j : Int) ∧ ss[j]? = some s ∧ reqP b xs s = ((worstP b xs ss).2.1, 0) := by
  unfold worstP at h ⊢
  by_cases h1 : portB b xs = true
  · rw [if_pos h1] at h ⊢
    by_cases h2 : inR (ss.length : Int) 1 20 = true
    · rw [if_pos h2] at h ⊢
      have hl := inR_true.1 h2
      obtain ⟨h3, h4⟩ := worst_inv (b := b) (xs := xs) (ss := ss) (x := (worstL b xs ss 0 0 (-1)).1) (y := (worstL b xs ss 0 0 (-1)).2.1) ss.length 0 0 (-1) (by omega) (fun j hj => by omega) (.inl rfl) (fun _ => rfl) (by simpa using triple_zero h)
      exact ⟨h3, by omega, h4.resolve_left (by omega)⟩
    · rw [if_neg h2] at h; simp at h
  · rw [if_neg h1] at h; simp at h
end Go.Proofs.YtbjdbpdgacfcpaaGreat
end
