/- Parts of a proof, one after another: Sort4, LikesT, Share1, Share2, WtsP. No condition. -/
import Derived.Test.YtbjdbpdgacfcpaaGreatK0
import Derived.Test.YtbjdbpdgacfcpaaGreatK1
import Derived.Test.YtbjdbpdgacfcpaaGreatK3
import Derived.Test.YtbjdbpdgacfcpaaGreatK13
import Derived.Test.YtbjdbpdgacfcpaaGreatK17
import Derived.Test.YtbjdbpdgacfcpaaGreatK18
import Derived.Test.YtbjdbpdgacfcpaaGreatK20
import Derived.Deep.DeepCutAuto
/- Sorting the indices: the stable sort. -/
section
namespace Go.Proofs.YtbjdbpdgacfcpaaGreat
open Go.RowKit Go.BigFrame

set_option maxRecDepth 20000 in
set_option maxHeartbeats 8000000 in
theorem stable_any {B g n c : Nat} {q1 q2 q3 : Nat} {am s : Int} {X : Option Addr} {mw xc : Nat} {ws : List Int} {w : World} (hn : n ≤ 30) (hmw : n ≤ mw) (C : Cm w q1 q2 q3 g am s X mw xc ws) (S : SW B w w g n c (fun k => k)) :
    Calls Tryz.prog 196 #[.slice (some ⟨g, 0, none⟩) n c, .int .i64 (n : Int), .func (.func 186) #[] #[.pointer (some ⟨q1, 0, none⟩), .pointer (some ⟨q2, 0, none⟩), .pointer (some ⟨q3, 0, none⟩)]] w
      fun e w' => e = .returned (.tuple #[]) ∧ ∃ f', SW B w w' g n c f' ∧ Mv 0 n (fun k => k) f' ∧ Srt (rests am s ws) f' 0 n := by
  have HC := Lib.hid C; clear C
  have HS := Lib.hid S; clear S
  have HM := Lib.hid (show ∀ k, k < n → (fun k : Nat => k) k < mw from fun k hk => by show k < mw; omega)
  have hni : (n : Int) ≤ 30 := by omega
  go_enter Tryz.func196, Tryz.ntmps196
  go_wp2
  go_loopw [7, 8] (fun a b wr => ∃ (A : Nat) (f' : Nat → Nat), a = .int .i64 (A : Int) ∧ b = .int .i64 ((A : Int) + 20) ∧ (A = 0 ∨ (A = 20 ∧ 20 ≤ n)) ∧ Hid (SW B w wr g n c f') ∧ Hid (Mv 0 A (fun k => k) f') ∧ Hid (Srt (rests am s ws) f' 0 A)) (fun a _ _ => 40 - (intOf a).toNat)
  case atStart => exact ⟨0, fun k => k, rfl, rfl, .inl rfl, HS, Lib.hid (Mv.refl _ _ _), Lib.hid (Srt.tiny _ _ (by omega))⟩
  case round =>
    obtain ⟨A, f1, rfl, rfl, hA, HW, HMV, HSR⟩ := hrel
    by_cases hge : A + 20 ≤ n
    · have hA0 : A = 0 := by omega
      subst hA0
      have h20 : (20 : Int) ≤ (n : Int) := by omega
      have hcond : ((0 : Nat) : Int) + 20 ≤ (n : Int) := by omega
      have HC2 := Lib.hid (HC.out.sw HW.out)
      have HCALL := Lib.hid (insertion_any 0 20 HC2.out (SW.start HW.out.res) (by omega) (by omega) (by omega) (fun p q h1 h2 h3 => by rw [HMV.out.out p (.inr (by omega)), HMV.out.out q (.inr (by omega))]; exact h2) ((HMV.out.wide (a' := 0) (b' := n) (by omega) (by omega)).lt (Nat.le_refl _) HM.out))
      go_wp2_with (go_at_call 201; refine HCALL.out.mono ?_; rintro e w1 ⟨rfl, f2, hs, hm2, ht2⟩)
      go_roundw
      case rel => exact ⟨20, f2, by go_num, by go_num, .inr ⟨rfl, by omega⟩, Lib.hid (HW.out.trans hs), Lib.hid ((HMV.out.wide (Nat.le_refl _) (by omega)).trans hm2), Lib.hid ht2⟩
      case measure => simp [intOf]
    · have hcond : ¬ (A : Int) + 20 ≤ (n : Int) := by omega
      have hAn : A ≤ n := by omega
      have HC2 := Lib.hid (HC.out.sw HW.out)
      have HCALL := Lib.hid (insertion_any A n HC2.out (SW.start HW.out.res) (by omega) hAn (Nat.le_refl _) (fun p q h1 h2 h3 => by rw [HMV.out.out p (.inr (by omega)), HMV.out.out q (.inr (by omega))]; exact h2) ((HMV.out.wide (a' := 0) (b' := n) (by omega) (by omega)).lt (Nat.le_refl _) HM.out))
      go_wp2_with (go_at_call 201; refine HCALL.out.mono ?_; rintro e w1 ⟨rfl, f2, hs, hm2, ht2⟩)
      have HW2 := Lib.hid (HW.out.trans hs)
      have HMA := Lib.hid ((HMV.out.wide (a' := 0) (b' := n) (by omega) (by omega)).trans (hm2.wide (by omega) (Nat.le_refl _)))
      have HLO := Lib.hid (HSR.out.of_out (g := f2) fun k _ hk => hm2.out k (.inl hk))
      have HHI := Lib.hid ht2
      have HLR := Lib.hid (show LR f2 0 A n from fun i j i1 i2 i3 i4 => by
        obtain ⟨p, _, p2, e⟩ := HMV.out.from_ i i1 i2
        obtain ⟨q, q1', q2', e'⟩ := hm2.from_ j i3 i4
        rw [hm2.out i (.inl i2), e, e', HMV.out.out q (.inr q1')]
        show p < q
        omega)
      clear hs hm2 ht2 HCALL HC2 HW HMV HSR
      by_cases h20 : n ≤ 20
      · have hlt : ¬ (20 : Int) < (n : Int) := by omega
        rename World => w2
        have HFIN := Lib.hid (show Srt (rests am s ws) f2 0 n from by
          rcases hA with h | ⟨h, h'⟩
          · have h2 := HHI.out; rw [h] at h2; exact h2
          · have h2 := HLO.out; rw [h] at h2; exact h2.sub (Nat.le_refl _) h20)
        go_loopw [6] (fun bs wr => bs = .int .i64 20 ∧ w2 = wr) (fun _ _ => 0)
        case atStart => exact ⟨rfl, rfl⟩
        case round =>
          obtain ⟨rfl, rfl⟩ := hrel
          go_wp2
          go_end0
          exact ⟨rfl, f2, HW2.out, HMA.out, HFIN.out⟩
      · have hA20 : A = 20 := by omega
        subst hA20
        have hlt : (20 : Int) < (n : Int) := by omega
        have h40 : ¬ (40 : Int) ≤ (n : Int) := by omega
        have h40' : ¬ (40 : Int) < (n : Int) := by omega
        have HC2 := Lib.hid (HC.out.sw HW2.out)
        have HCALL := Lib.hid (symMerge_any (hn := (by omega : n ≤ 1000)) (n - 0) 0 20 n _ f2 (Nat.le_refl _) (by omega) (by omega) (Nat.le_refl _) HC2.out (SW.start HW2.out.res) (HMA.out.lt (Nat.le_refl _) HM.out) HLO.out HHI.out HLR.out)
        rename World => w2
        refine wp_loop_rounds 2 ?_
        rw [rounds_succ]
        go_wp2
        refine wp_loop_rounds 1 ?_
        rw [rounds_succ]
        go_wp2_with (go_at_call 202; refine HCALL.out.mono ?_; rintro e w5 ⟨rfl, f3, hs, hm3, ht3⟩)
        rw [rounds_succ]
        go_wp2
        go_end0
        exact ⟨rfl, f3, HW2.out.trans hs, HMA.out.trans hm3, ht3⟩
set_option maxRecDepth 20000 in
theorem sortStable_any {B g n c : Nat} {q1 q2 q3 : Nat} {am s : Int} {X : Option Addr} {mw xc : Nat} {ws : List Int} {w : World} (hn : n ≤ 30) (hmw : n ≤ mw) (C : Cm w q1 q2 q3 g am s X mw xc ws) (S : SW B w w g n c (fun k => k)) :
    Calls Tryz.prog 185 #[.slice (some ⟨g, 0, none⟩) n c, .func (.func 186) #[] #[.pointer (some ⟨q1, 0, none⟩), .pointer (some ⟨q2, 0, none⟩), .pointer (some ⟨q3, 0, none⟩)]] w
      fun e w' => e = .returned (.tuple #[]) ∧ ∃ f', SW B w w' g n c f' ∧ Mv 0 n (fun k => k) f' ∧ Srt (rests am s ws) f' 0 n := by
  have HC := Lib.hid C; clear C
  have HS := Lib.hid S; clear S
  go_enter Tryz.func185, Tryz.ntmps185
  go_wp2_with fail
  refine (stable_any hn hmw HC.out HS.out).mono ?_
  rintro e w1 ⟨rfl, f', hs, hm, ht⟩
  go_wp2
  go_end0
  exact ⟨rfl, f', hs, hm, ht⟩
end Go.Proofs.YtbjdbpdgacfcpaaGreat
end

/- Tables are compared; what a law on portfolios knows of what was drawn. -/
section
namespace Go.Proofs.YtbjdbpdgacfcpaaGreat
open Go.RowKit Go.BigFrame
set_option maxHeartbeats 1000000 in
theorem likeTables9_any (f : Int) (A : Option Addr) (n cap : Nat) (A2 : Option Addr) (cap2 : Nat) (xs : List Int) (w : World) (hl : xs.length = n) (hn : n ≤ 1048576) (hX : Rd w w.heap.size A 1 (intRows xs)) (hX2 : Rd w w.heap.size A2 1 (intRows xs)) :
    Calls Tryz.prog 18 #[.agg #[.int .i64 f, .slice A n cap], .agg #[.int .i64 f, .slice A2 n cap2]] w fun e w' => e = .returned (.bool true) ∧ Below w.heap.size w w' := by
  have hb : Below w.heap.size w ((w.alloc (.cells #[.int .i64 f, .slice A n cap] 26)).alloc (.cells #[.int .i64 f, .slice A2 n cap2] 26)) := ((Below.refl _ w).alloc (Nat.le_refl _) _).alloc (by simp) _
  have HX := Lib.hid (hX.past hb)
  have HX2 := Lib.hid (hX2.past hb)
  have HB := Lib.hid hb
  clear hX hX2 hb
  go_enter Tryz.func18, Tryz.ntmps18
  go_wp2_with (go_at_call 46; refine (likeInts_any A n cap A2 cap2 xs _ hl hn HX.out HX2.out).mono ?_; rintro e w' ⟨rfl, hb⟩)
  go_ret
  exact ⟨rfl, HB.out.trans (hb.mono HB.out.size)⟩
theorem Rd.bcell {w : World} {B g sz : Nat} {r : List Value} (h : Rd w B (some ⟨g, 0, none⟩) sz [r]) (j : Nat) {v : Value} (hv : r[j]? = some v) : w.cell? ⟨g, j, none⟩ = some v := by
  have := Rd.box h j v hv
  rw [add_none] at this
  simpa using this
/-- what is known of a drawn basis and portfolio, beside their cells -/
structure PF (b : Bas) (n c : Nat) (k : Nat) (xs : List Holding) : Prop where
  sm : BasSmall b n
  len : k ≤ 100
  fits : ∀ x ∈ xs, x.fits
  xlen : xs.length = k
  blen : b.lives.length = n
  cap : n ≤ c
theorem PB.pf {B : Nat} {w : World} {b : Bas} {A : Option Addr} {n c : Nat} {A2 : Option Addr} {k c2 : Nat} {xs : List Holding} (h : PB B w b A n c A2 k c2 xs) : PF b n c k xs := ⟨h.sm, h.len, h.fits, h.xlen, h.blen, res_cap h.liv⟩
/-- .. of a drawn basis alone -/
structure BF (b : Bas) (n c : Nat) : Prop where
  sm : BasSmall b n
  blen : b.lives.length = n
  cap : n ≤ c
theorem PF.bf {b : Bas} {n c k : Nat} {xs : List Holding} (h : PF b n c k xs) : BF b n c := ⟨h.sm, h.blen, h.cap⟩
theorem BF.of {B : Nat} {w : World} {b : Bas} {A : Option Addr} {n c : Nat} (h : Res B w 2 1 A n c (intRows b.lives)) (hs : BasSmall b n) : BF b n c := ⟨hs, by have := h.len; rwa [intRows_length] at this, res_cap h⟩
theorem liesT_of {w : World} {A : Option Addr} {n : Nat} {xs : List Int} (hr : Rd w w.heap.size A 1 (intRows xs)) (hl : xs.length = n) (hn : n ≤ 1048576) (h : ∀ x ∈ xs, 0 ≤ x ∧ x ≤ 1000001) : LiesT w A n xs :=
  ⟨hl, hn, hr, fun x hx => by have := h x hx; unfold In64; omega⟩
theorem BF.basT {w : World} {b : Bas} {A : Option Addr} {n c : Nat} (h : BF b n c) (hr : Rd w w.heap.size A 1 (intRows b.lives)) : BasT w A n c b := by
  refine ⟨liesT_of hr h.blen (by have := h.sm.len; omega) h.sm.lives, h.cap, ?_, ?_⟩
  · have := h.sm.first; unfold In64; omega
  · have := h.sm.rate; unfold In64; omega
theorem tab_lives {f : Int} {xs : List Int} (h : tableB f xs = true) : ∀ x ∈ xs, 0 ≤ x ∧ x ≤ 1000001 := by
  intro x hx
  have T := table_ok h
  obtain ⟨k, hk, rfl⟩ := List.getElem_of_mem hx
  have e : lv xs k = xs[k] := lv_get (List.getElem?_eq_getElem hk)
  have h1 := T.nonneg k
  have h2 := T.most k
  omega
theorem tab_first {f : Int} {xs : List Int} (h : tableB f xs = true) : In64 f := by
  have T := table_ok h
  have h1 := T.first0; have h2 := T.first1
  unfold In64; omega
theorem tabT_good {w : World} {A : Option Addr} {n : Nat} {f : Int} {xs : List Int} (h : tableB f xs = true) (hr : Rd w w.heap.size A 1 (intRows xs)) (hl : xs.length = n) : LiesT w A n xs :=
  liesT_of hr hl (by have := (table_ok h).len1; omega) (tab_lives h)
theorem basT_good {w : World} {A : Option Addr} {n c : Nat} {b : Bas} (h : basisB b = true) (hr : Rd w w.heap.size A 1 (intRows b.lives)) (hl : b.lives.length = n) (hc : n ≤ c) : BasT w A n c b := by
  have B := basis_ok h
  have ht : tableB b.first b.lives = true := by simp only [basisB, Bool.and_eq_true] at h; exact h.1
  refine ⟨tabT_good ht hr hl, hc, tab_first ht, ?_⟩
  have h1 := B.rate0; have h2 := B.rate1
  unfold In64; omega
theorem chgT_len {f dt : Int} {xs : List Int} : (chgTP f xs dt).2.1.length ≤ 1048576 := by
  unfold chgTP
  split
  · rename_i h1
    split
    · have := chgL_small (dt := dt) h1
      show (chgL xs dt).length ≤ 1048576
      omega
    · simp
  · simp
theorem chgB_len {b : Bas} {r : Scenario} : (chgBP b r).1.lives.length ≤ 1048576 := by
  unfold chgBP
  split
  · rename_i h1
    split
    · have ht : tableB b.first b.lives = true := by simp only [basisB, Bool.and_eq_true] at h1; exact h1.1
      have := chgL_small (dt := r.death) ht
      show (chgL b.lives r.death).length ≤ 1048576
      omega
    · simp
  · simp
theorem scen_fit2 {r d : Int} (h : (-1000 ≤ r ∧ r ≤ 1000) ∧ (-1000 ≤ d ∧ d ≤ 1000)) : (⟨r, d⟩ : Scenario).fits := by
  show In64 r ∧ In64 d
  unfold In64; omega
theorem box2 {w : World} {tx ty : TypeId} {X Y : List Value} : Below w.heap.size w ((w.alloc (.cells X.toArray tx)).alloc (.cells Y.toArray ty)) ∧ Rd ((w.alloc (.cells X.toArray tx)).alloc (.cells Y.toArray ty)) ((w.alloc (.cells X.toArray tx)).alloc (.cells Y.toArray ty)).heap.size (some ⟨w.heap.size, 0, none⟩) X.length [X] ∧ Rd ((w.alloc (.cells X.toArray tx)).alloc (.cells Y.toArray ty)) ((w.alloc (.cells X.toArray tx)).alloc (.cells Y.toArray ty)).heap.size (some ⟨w.heap.size + 1, 0, none⟩) Y.length [Y] := by
  refine ⟨((Below.refl _ w).alloc (Nat.le_refl _) _).alloc (by simp) _, Blk.rd ((Blk.new w tx X.toArray).alloc _), ?_⟩
  have h := Blk.new (w.alloc (.cells X.toArray tx)) ty Y.toArray
  simp only [World.size_alloc] at h
  exact Blk.rd h
theorem box1 {w : World} {tx : TypeId} {X : List Value} : Below w.heap.size w (w.alloc (.cells X.toArray tx)) ∧ Rd (w.alloc (.cells X.toArray tx)) (w.alloc (.cells X.toArray tx)).heap.size (some ⟨w.heap.size, 0, none⟩) X.length [X] :=
  ⟨(Below.refl _ w).alloc (Nat.le_refl _) _, Blk.rd (Blk.new w tx X.toArray)⟩
end Go.Proofs.YtbjdbpdgacfcpaaGreat
end

/- Shares: the program's contract. -/
section
namespace Go.Proofs.YtbjdbpdgacfcpaaGreat
open Go.RowKit Go.BigFrame

theorem natRows_succ (k : Nat) (f : Nat → Nat) : natRows (k + 1) f = natRows k f ++ [[Value.int .i64 ((f k : Nat) : Int)]] := by simp [natRows, List.range_succ]
theorem sum_nonneg : ∀ {ws : List Int}, (∀ x ∈ ws, 0 ≤ x) → 0 ≤ ws.sum
  | [], _ => by simp
  | w :: ws, h => by
    have h1 := h w (by simp)
    have h2 := sum_nonneg (ws := ws) fun x hx => h x (by simp [hx])
    simp only [List.sum_cons]; omega
theorem take_sum_le {ws : List Int} (h : ∀ x ∈ ws, 0 ≤ x) (k : Nat) : 0 ≤ (ws.take k).sum ∧ (ws.take k).sum ≤ ws.sum := by
  have h1 := sum_nonneg (ws := ws.take k) fun x hx => h x (List.mem_of_mem_take hx)
  have h2 := sum_nonneg (ws := ws.drop k) fun x hx => h x (List.mem_of_mem_drop hx)
  have h3 : ws.sum = (ws.take k).sum + (ws.drop k).sum := by rw [← List.sum_append, List.take_append_drop]
  omega
theorem mem_le_sum : ∀ {ws : List Int}, (∀ x ∈ ws, 0 ≤ x) → ∀ x ∈ ws, x ≤ ws.sum
  | w :: ws, h, x, hx => by
    have h1 := h w (by simp)
    have h2 := sum_nonneg (ws := ws) fun x hx => h x (by simp [hx])
    simp only [List.sum_cons]
    rcases List.mem_cons.1 hx with e | e
    · omega
    · have := mem_le_sum (ws := ws) (fun x hx => h x (by simp [hx])) x e
      omega
theorem quots_take (a s : Int) (ws : List Int) (k : Nat) : (quots a s ws).take k = quots a s (ws.take k) := by simp [quots, List.map_take]
theorem quots_get {a s : Int} {ws : List Int} {k : Nat} {x : Int} (h : ws[k]? = some x) : (quots a s ws)[k]? = some (a * x / s) := by simp [quots, h]
theorem quots_length (a s : Int) (ws : List Int) : (quots a s ws).length = ws.length := by simp [quots]
theorem quots_bound {a : Int} {ws : List Int} (ha : 0 ≤ a) (hw : ∀ x ∈ ws, 0 ≤ x) (hs : 0 < ws.sum) : ∀ q ∈ quots a ws.sum ws, 0 ≤ q ∧ q ≤ a := by
  intro q hq
  obtain ⟨x, hx, rfl⟩ := List.mem_map.1 hq
  have h1 := hw x hx
  have h2 := mem_le_sum hw x hx
  refine ⟨Int.ediv_nonneg (Int.mul_nonneg ha h1) (by omega), ?_⟩
  have h3 : a * x ≤ a * ws.sum := Int.mul_le_mul_of_nonneg_left h2 ha
  have h4 := Int.ediv_le_ediv hs h3
  rwa [Int.mul_ediv_cancel _ (by omega)] at h4
theorem quots_sums {a : Int} {ws : List Int} (ha : 0 ≤ a) (ha1 : a ≤ 1000000000) (hw : ∀ x ∈ ws, 0 ≤ x) (hs : 0 < ws.sum) (hl : ws.length ≤ 30) : Sums (quots a ws.sum ws) :=
  (sums_of (n := 30) (hi := 1000000000) (by omega) (by rw [quots_length]; exact hl) (fun q hq => by have := quots_bound ha hw hs q hq; omega) (by omega)).1
theorem bump_bound : ∀ (is : List Nat) {o : List Int} {hi : Int}, 0 ≤ hi → (∀ x ∈ o, 0 ≤ x ∧ x ≤ hi) → ∀ x ∈ bump o is, 0 ≤ x ∧ x ≤ hi + is.length
  | [], o, hi, _, h => fun x hx => by have := h x hx; simp; omega
  | i :: is, o, hi, h0, h => fun x hx => by
    have hg : 0 ≤ o.getD i 0 ∧ o.getD i 0 ≤ hi := by
      rw [List.getD_eq_getElem?_getD]
      cases he : o[i]? with
      | none => simp; omega
      | some y => exact h y (List.mem_of_getElem? he)
    have := bump_bound is (o := o.set i (o.getD i 0 + 1)) (hi := hi + 1) (by omega) (fun y hy => by
      rcases List.mem_or_eq_of_mem_set hy with h' | h'
      · have := h y h'; omega
      · omega) x hx
    simp only [List.length_cons]; push_cast; omega
/-- while the wholes and the indices are collected -/
structure ShS (B q1 q2 q3 : Nat) (a s : Int) (X : Option Addr) (m xc : Nat) (ws : List Int) (w wr : World) (ko go oc kr gr rc : Nat) : Prop where
  ro : Res B wr 2 1 (some ⟨go, 0, none⟩) ko oc (intRows ((quots a s ws).take ko))
  rr : Res B wr 3 1 (some ⟨gr, 0, none⟩) kr rc (natRows kr fun k => k)
  ne : go ≠ gr
  n3 : go ≠ q3
  m3 : gr ≠ q3
  b1 : Blk wr q1 2 #[.int .i64 a]
  b2 : Blk wr q2 24 #[.slice X m xc]
  b3 : Blk wr q3 2 #[.int .i64 s]
  l1 : q1 < B
  l2 : q2 < B
  l3 : B ≤ q3
  bl : Below w.heap.size w wr
  zb : w.heap.size ≤ B
namespace ShS
variable {B q1 q2 q3 : Nat} {a s : Int} {X : Option Addr} {m xc : Nat} {ws : List Int} {w wr w' : World} {ko go oc kr gr rc : Nat}
theorem hB (h : ShS B q1 q2 q3 a s X m xc ws w wr ko go oc kr gr rc) : B ≤ wr.heap.size := by have := h.ro.lt rfl; omega
theorem app1 (h : ShS B q1 q2 q3 a s X m xc ws w wr ko go oc kr gr rc) {O5 : Option Addr} {oc5 : Nat} {x : Int} (hx : ws[ko]? = some x)
    (hR : Res B w' 2 1 O5 (ko + 1) oc5 (intRows ((quots a s ws).take ko) ++ [[.int .i64 (a * x / s)]])) (hb : Below B wr w') (hk : KeptBut wr w' (some ⟨go, 0, none⟩)) (ho : blkOf O5 = blkOf (some ⟨go, 0, none⟩) ∨ blkOf O5 = some (wr.heap.size + 1)) :
    ∃ g5, O5 = some ⟨g5, 0, none⟩ ∧ ShS B q1 q2 q3 a s X m xc ws w w' (ko + 1) g5 oc5 kr gr rc := by
  obtain ⟨g5, _, e, _, _, _, _⟩ := hR.at_ (by omega)
  subst e
  have h1 := h.rr.lt rfl; have h2 := h.b3.lt; have h3 := h.ne; have h4 := h.n3
  have hg : g5 = go ∨ g5 = wr.heap.size + 1 := by
    rcases ho with e | e
    · left; injection e
    · right; injection e
  rw [← intRows_snoc, ← take_succ_snoc (quots_get hx)] at hR
  refine ⟨g5, rfl, { ro := hR, rr := h.rr.keptBut hk (fun g e => by injection e with e; injection e with e; subst e; intro h9; injection h9 with h9; exact h3 h9.symm), ne := by omega, n3 := by omega, m3 := h.m3, b1 := h.b1.below hb h.l1, b2 := h.b2.below hb h.l2, b3 := h.b3.kept hk (fun h9 => by injection h9 with h9; exact h4 h9.symm), l1 := h.l1, l2 := h.l2, l3 := h.l3, bl := h.bl.trans (hb.mono h.zb), zb := h.zb }⟩
theorem app2 (h : ShS B q1 q2 q3 a s X m xc ws w wr ko go oc kr gr rc) {O5 : Option Addr} {oc5 : Nat}
    (hR : Res B w' 3 1 O5 (kr + 1) oc5 (natRows kr (fun k => k) ++ [[.int .i64 (kr : Int)]])) (hb : Below B wr w') (hk : KeptBut wr w' (some ⟨gr, 0, none⟩)) (ho : blkOf O5 = blkOf (some ⟨gr, 0, none⟩) ∨ blkOf O5 = some (wr.heap.size + 1)) :
    ∃ g5, O5 = some ⟨g5, 0, none⟩ ∧ ShS B q1 q2 q3 a s X m xc ws w w' ko go oc (kr + 1) g5 oc5 := by
  obtain ⟨g5, _, e, _, _, _, _⟩ := hR.at_ (by omega)
  subst e
  have h1 := h.ro.lt rfl; have h2 := h.b3.lt; have h3 := h.ne; have h4 := h.m3
  have hg : g5 = gr ∨ g5 = wr.heap.size + 1 := by
    rcases ho with e | e
    · left; injection e
    · right; injection e
  rw [show natRows kr (fun k => k) ++ [[Value.int .i64 (kr : Int)]] = natRows (kr + 1) (fun k => k) from (natRows_succ kr _).symm] at hR
  refine ⟨g5, rfl, { ro := h.ro.keptBut hk (fun g e => by injection e with e; injection e with e; subst e; intro h9; injection h9 with h9; exact h3 h9), rr := hR, ne := by omega, n3 := h.n3, m3 := by omega, b1 := h.b1.below hb h.l1, b2 := h.b2.below hb h.l2, b3 := h.b3.kept hk (fun h9 => by injection h9 with h9; exact h4 h9.symm), l1 := h.l1, l2 := h.l2, l3 := h.l3, bl := h.bl.trans (hb.mono h.zb), zb := h.zb }⟩
end ShS
theorem rd_block {w : World} {B : Nat} {X : Option Addr} {sz : Nat} {rows : List (List Value)} (h : Rd w B X sz rows) (hne : rows ≠ []) : ∀ ad, X = some ad → ad.block < B := by
  rcases h with h | ⟨ad, e, hb, _⟩
  · exact absurd h hne
  · intro ad' e'; rw [e] at e'; injection e' with e'; subst e'; exact hb
theorem IntT.info : (Tryz.prog.info? 3).map (fun i => (i.zero, i.size, i.bytes)) = some (some (.int .i64 0), 1, 8) := by kernel_rfl
set_option maxRecDepth 20000 in
set_option maxHeartbeats 8000000 in
theorem impl_shareOut_any (a : Int) (X : Option Addr) (m xc : Nat) (ws : List Int) (w : World) (hl : ws.length = m) (hm0 : 1 ≤ m) (hm : m ≤ 30) (hX : Rd w w.heap.size X 1 (intRows ws)) (hw : ∀ x ∈ ws, 0 ≤ x ∧ x ≤ 1000000000) (ha : 0 ≤ a ∧ a ≤ 1000000000) (hs : 0 < ws.sum) :
    Calls Tryz.prog 159 #[.int .i64 a, .slice X m xc] w fun e w' => ∃ A' c', e = .returned (.slice A' m c') ∧ Res w.heap.size w' 2 1 A' m c' (intRows (sharesL a ws)) ∧ Below w.heap.size w w' := by
  obtain ⟨a0, a1⟩ := ha
  have hs2 := sums_of (xs := ws) (n := 30) (hi := 1000000000) (by omega) (by omega) hw (by omega)
  obtain ⟨HSU, _, hs1⟩ := hs2
  have HSU := Lib.hid HSU
  have hs3 : ws.sum ≤ 30000000000 := by omega
  have HXB := Lib.hid (rd_block hX (by intro h; have h2 : ws.length = 0 := by simpa [intRows] using congrArg List.length h
                                       omega))
  have HL := Lib.hid hl; clear hl
  have HWB := Lib.hid hw; clear hw
  have HXR := Lib.hid hX; clear hX
  have HQB := Lib.hid (quots_bound a0 (fun x hx => (HWB.out x hx).1) hs)
  have HQS := Lib.hid (quots_sums a0 a1 (fun x hx => (HWB.out x hx).1) hs (by rw [HL.out]; exact hm))
  obtain ⟨i0, hi0, hz0, hz1, hz2⟩ := info_parts Int64.info
  have HI := Lib.hid (And.intro hi0 (And.intro hz0 (And.intro hz1 hz2))); clear hi0 hz0 hz1 hz2
  obtain ⟨i1, hi0, hz0, hz1, hz2⟩ := info_parts IntT.info
  have HJ := Lib.hid (And.intro hi0 (And.intro hz0 (And.intro hz1 hz2))); clear hi0 hz0 hz1 hz2
  obtain ⟨s, hsd⟩ : ∃ s, s = ws.sum := ⟨_, rfl⟩
  have HSD := Lib.hid hsd
  rw [← hsd] at hs hs3 HQB HQS hs1
  clear hsd
  have HSH := Lib.hid (show ShS (w.heap.size + 1 + 1) w.heap.size (w.heap.size + 1) (w.heap.size + 1 + 1 + 1 + 1) a s X m xc ws w (((((w.alloc (.cells #[.int .i64 a] 2)).alloc (.cells #[.slice X m xc] 24)).alloc (.cells #[] 2)).alloc (.cells #[] 3)).alloc (.cells #[.int .i64 s] 2)) 0 (w.heap.size + 1 + 1) 0 0 (w.heap.size + 1 + 1 + 1) 0 from by
    refine { ro := ((Res.zero_at (by simp) (by simp)).alloc _).alloc _, rr := (Res.zero_at (by simp) (by simp)).alloc _, ne := by omega, n3 := by omega, m3 := by omega, b1 := ((((Blk.new w _ _).alloc _).alloc _).alloc _).alloc _, b2 := ?_, b3 := ?_, l1 := by omega, l2 := by omega, l3 := by omega, bl := ((((((Below.refl _ w).alloc (Nat.le_refl _) _).alloc (by simp) _).alloc (by simp <;> omega) _).alloc (by simp <;> omega) _).alloc (by simp <;> omega) _), zb := by omega }
    · have h := Blk.new (w.alloc (.cells #[.int .i64 a] 2)) 24 #[.slice X m xc]
      rw [World.size_alloc] at h
      exact ((h.alloc _).alloc _).alloc _
    · have h := Blk.new ((((w.alloc (.cells #[.int .i64 a] 2)).alloc (.cells #[.slice X m xc] 24)).alloc (.cells #[] 2)).alloc (.cells #[] 3)) 2 #[.int .i64 s]
      simp only [World.size_alloc] at h
      exact h)
  go_enter Tryz.func159, Tryz.ntmps159
  go_upto_region 2 with (go_at_call 97; refine (impl_total_any X m xc ws _ HL.out (by omega) (HXR.out.past (((Below.refl _ w).alloc (Nat.le_refl _) _).alloc (by simp) _)) HSU.out).mono ?_; rw [← HSD.out]; rintro e w' ⟨rfl, rfl⟩)
  generalize ((((w.alloc (.cells #[.int .i64 a] 2)).alloc (.cells #[.slice X m xc] 24)).alloc (.cells #[] 2)).alloc (.cells #[] 3)).alloc (.cells #[.int .i64 s] 2) = v1 at HSH ⊢
  generalize w.heap.size + 1 + 1 + 1 + 1 = q3 at HSH ⊢
  generalize w.heap.size + 1 + 1 + 1 = g0 at HSH ⊢
  generalize hBB : w.heap.size + 1 + 1 = B at HSH ⊢
  generalize w.heap.size + 1 = q2 at HSH ⊢
  generalize hq1 : w.heap.size = q1 at HSH ⊢
  have HQ1 := Lib.hid hq1; have HBB := Lib.hid hBB; clear hq1 hBB
  have c2 : v1.cell? ⟨q2, 0, none⟩ = some (.slice X m xc) := HSH.out.b2.cell 0
  go_wp2
  clear c2
  go_loopw [6, 7, 18] (fun o r i wr => ∃ (k go oc gr rc : Nat), k ≤ m ∧ i = .int .i64 k ∧ o = .slice (some ⟨go, 0, none⟩) k oc ∧ r = .slice (some ⟨gr, 0, none⟩) k rc ∧ Hid (ShS B q1 q2 q3 a s X m xc ws w wr k go oc k gr rc)) (fun _ _ i _ => m - (intOf i).toNat)
  case atStart => exact ⟨0, _, 0, _, 0, by omega, rfl, rfl, rfl, HSH⟩
  case round =>
    clear HSH
    obtain ⟨k, go, oc, gr, rc, hk, rfl, rfl, rfl, HS⟩ := hrel
    by_cases hlt : k < m
    · obtain ⟨x, hx⟩ := get_of_lt (xs := ws) (k := k) (by rw [HL.out]; exact hlt)
      obtain ⟨x0, x1⟩ := HWB.out x (List.mem_of_getElem? hx)
      have m1 := Int.mul_nonneg a0 x0
      have m2 := Int.mul_le_mul a1 x1 x0 (by omega)
      obtain ⟨ad, rfl, had, hc⟩ := (HXR.out.below HS.out.bl).int_at hx
      have HXG := Lib.hid hx; clear hx
      have hki : (k : Int) < (m : Int) := by omega
      have hs0 : s ≠ 0 := by omega
      have c1 : wr.cell? ⟨q1, 0, none⟩ = some (.int .i64 a) := HS.out.b1.cell 0
      have c3 : wr.cell? ⟨q3, 0, none⟩ = some (.int .i64 s) := HS.out.b3.cell 0
      have HLE := Lib.hid HS.out.hB
      go_wp2_with (first | (at_builtin; refine wpList_append_row_at _ rfl (.tmp 23) (.tmp 29) 24 rfl B 2 i0 _ 1 8 Tryz.underlying24 HI.out.1 HI.out.2.1 HI.out.2.2.1 HI.out.2.2.2 rfl (by decide) (by decide) _ k oc _ rfl HS.out.ro [.int .i64 _] _ rfl rfl (by simp [Value.oneCell']) (by omega) HLE.out ?_; intro O5 oc5 w5 hO5 hb5 hk5 ho5; obtain ⟨g5, e5, t5⟩ := HS.out.app1 HXG.out hO5 hb5 hk5 ho5; subst e5; have HS5 := Lib.hid t5; have HLE5 := Lib.hid HS5.out.hB; clear hO5 hb5 hk5 ho5 t5) | (at_builtin; refine wpList_append_row_at _ rfl (.tmp 31) (.tmp 33) 186 rfl B 3 i1 _ 1 8 Tryz.underlying186 HJ.out.1 HJ.out.2.1 HJ.out.2.2.1 HJ.out.2.2.2 rfl (by decide) (by decide) _ k rc _ rfl HS5.out.rr [.int .i64 _] _ rfl rfl (by simp [Value.oneCell']) (by omega) HLE5.out ?_; intro O6 oc6 w6 hO6 hb6 hk6 ho6; obtain ⟨g6, e6, t6⟩ := HS5.out.app2 hO6 hb6 hk6 ho6; subst e6; have HS6 := Lib.hid t6; clear hO6 hb6 hk6 ho6 t6))
      go_roundw
      case rel => exact ⟨k + 1, _, _, _, _, by omega, by go_num, rfl, rfl, HS6⟩
      case measure => simp [intOf]; omega
    · have hkm : k = m := by omega
      subst hkm
      rename World => w1
      have hgr := HS.out.rr.lt rfl
      have hgo := HS.out.ro.lt rfl
      have hl1 := HS.out.l1; have hl2 := HS.out.l2; have hzb := HS.out.zb; have hne := HS.out.ne; have hm3 := HS.out.m3
      have HC := Lib.hid (show Cm w1 q1 q2 q3 gr a s X k xc ws from
        { b1 := HS.out.b1, b2 := HS.out.b2, b3 := HS.out.b3, rd := (HXR.out.below HS.out.bl).more HS.out.bl.size, n1 := by omega, n2 := by omega, n3 := Ne.symm hm3, nX := fun ad e => by have := HXB.out ad e; omega, len := HL.out, a0 := a0, a1 := a1, s0 := by omega, s1 := by omega, w0 := HWB.out })
      have HRO := Lib.hid (show Res B w1 2 1 (some ⟨go, 0, none⟩) k oc (intRows (quots a s ws)) by
        have h := HS.out.ro; rwa [take_all (by rw [quots_length]; exact HL.out)] at h)
      have hkc : k ≤ rc := res_cap HS.out.rr
      have HLB := Lib.hid (leftS_bound (a := a) (ws := ws) (by rw [← HSD.out]; exact hs))
      obtain ⟨d, hd⟩ : ∃ d, d = (leftS a ws).toNat := ⟨_, rfl⟩
      have HDD := Lib.hid hd
      have hd30 : d ≤ k := by have := HLB.out.2; have := HL.out; omega
      have HDS := Lib.hid (show (quots a s ws).sum = a - (d : Int) by have := HLB.out.1; rw [hd]; have e : leftS a ws = a - (quots a ws.sum ws).sum := rfl; rw [← HSD.out] at e; omega)
      clear hd
      go_upto_region 8 with (go_at_call 185; refine (sortStable_any hm (Nat.le_refl _) HC.out (SW.start HS.out.rr)).mono ?_; rintro e w6 ⟨rfl, f', hs6, hm6, ht6⟩)
      have HSW := Lib.hid hs6
      have HOR := Lib.hid (ordered_of (r := rests a s ws) (n := k) (g := f') (by simp [rests, HL.out]) hm6 ht6)
      have HFL := Lib.hid (hm6.lt (Nat.le_refl _) (fun j hj => hj))
      have HRO6 := Lib.hid (HRO.out.keep fun g e => hs6.kp g (by injection e with e; injection e with e; omega) (by injection e with e; injection e with e; omega))
      have HB6 := Lib.hid (HS.out.bl.trans (hs6.bl.mono hzb))
      have hb1 : Blk w6 q1 2 #[.int .i64 a] := (hs6.kp q1 HS.out.b1.lt (by omega)).trans HS.out.b1
      have d1 := fun z : Past w6 => Past.cell (p := ⟨q1, 0, none⟩) (v := .int .i64 a) (hb1.cell 0) z
      have HROR := Lib.hid HRO6.out.rd
      have hsub : a - (a - (d : Int)) = (d : Int) := by omega
      have hdk : (d : Int) ≤ (k : Int) := by omega
      have hdc : (d : Int) ≤ (rc : Int) := by omega
      have hdc2 : d ≤ rc := by omega
      clear hs6 hm6 ht6 hb1 HS HC HRO
      go_wp2
      refine wp_region_past (by kernel_rfl) (by kernel_rfl) ?_
      repeat (go_big_quiet_step ((go_simp; go_at_call 97; exact past_same ((impl_total_any (some ⟨go, 0, none⟩) k oc (quots a s ws) _ (by rw [quots_length]; exact HL.out) (by omega) (HROR.out.past (Subtype.property _)) HQS.out).mono (by rw [HDS.out]; exact fun _ _ h => h)))))
      refine wpQuiet_nil ?_
      rintro _ ⟨z, rfl⟩
      have HSWZ := Lib.hid (HSW.out.past z.2)
      have HROZ := Lib.hid (HRO6.out.past z.2)
      have HBZ := Lib.hid (HB6.out.trans (z.2.mono HB6.out.size))
      clear HROR d1 HSW HRO6 HB6
      go_wp2
      go_loopw [46] (fun i wr => ∃ j : Nat, j ≤ d ∧ i = .int .i64 j ∧ Hid (Res B wr 2 1 (some ⟨go, 0, none⟩) k oc (intRows (bump (quots a s ws) (((List.range k).map f').take j)))) ∧ Hid (SW B wr wr gr k rc f') ∧ Hid (Below w.heap.size w wr)) (fun i _ => d - (intOf i).toNat)
      case atStart => exact ⟨0, by omega, rfl, HROZ, Lib.hid (SW.start HSWZ.out.res), HBZ⟩
      case round =>
        clear HROZ HSWZ HBZ
        obtain ⟨j, hj, rfl, HO, HW, HB⟩ := hrel
        rename World => w8
        by_cases hjd : j < d
        · have hji : (j : Int) < (d : Int) := by omega
          have hfj := HFL.out j (by omega)
          have hfi : ((f' j : Nat) : Int) < (k : Int) := by omega
          have hoj : ((List.range k).map f')[j]? = some (f' j) := by simp [show j < k by omega]
          obtain ⟨x, hx⟩ := get_of_lt (xs := bump (quots a s ws) (((List.range k).map f').take j)) (k := f' j) (by rw [bump_length, quots_length, HL.out]; exact hfj)
          have hxb := bump_bound (((List.range k).map f').take j) a0 HQB.out x (List.mem_of_getElem? hx)
          have hlen : (((List.range k).map f').take j).length ≤ 30 := by simp; omega
          obtain ⟨x0, x1⟩ := hxb
          have hx2 : x + 1 ≤ 2000000000 := by omega
          obtain ⟨c1, z1⟩ := HW.out.cell (k := j) (by omega)
          obtain ⟨g', e1, hg1, hg2, c2, z2, hput⟩ := HO.out.putInt hx
          injection e1 with e1; injection e1 with e1; subst e1
          have HP := Lib.hid (hput (x + 1))
          have HXJ := Lib.hid hx; have HOJ := Lib.hid hoj
          have HG1 := Lib.hid hg1
          clear hput hx hoj hlen x1 hg1
          go_wp2
          go_roundw
          case rel =>
            refine ⟨j + 1, by omega, by go_num, Lib.hid ?_, Lib.hid (SW.start (HW.out.res.keep fun g e => ?_)), Lib.hid (HB.out.setCell (p := ⟨go, f' j, none⟩) (by have := HG1.out; show w.heap.size ≤ go; omega) _)⟩
            · rw [take_succ_snoc HOJ.out, bump_snoc]
              rw [show (bump (quots a s ws) (((List.range k).map f').take j)).getD (f' j) 0 = x by rw [List.getD_eq_getElem?_getD, HXJ.out]; rfl]
              exact HP.out
            · injection e with e; injection e with e; subst e
              exact Below.heap_setCell _ _ _ _ (fun e => hne (show go = gr from e.symm))
          case measure => simp [intOf]; omega
        · have hjd2 : j = d := by omega
          have hji : ¬ (j : Int) < (d : Int) := by omega
          have HQ := Lib.hid (show bump (quots a s ws) (((List.range k).map f').take j) = sharesL a ws by
            rw [hjd2, HDD.out]
            have h := HSD.out
            have hor := HOR.out
            rw [h] at hor ⊢
            exact (sharesL_eq (by rw [← h]; exact hs) hor).symm)
          clear hjd2
          go_wp2
          go_ret
          exact ⟨_, oc, rfl, by rw [← HQ.out]; exact HO.out.more hzb, HB.out⟩
end Go.Proofs.YtbjdbpdgacfcpaaGreat
end

/- Shares: the reference's contract. -/
section
namespace Go.Proofs.YtbjdbpdgacfcpaaGreat
open Go.RowKit Go.BigFrame

/-- two rows of numbers of one's own -/
structure Two (B : Nat) (w wr : World) (go no oc gr nr rc : Nat) (O R : List Int) : Prop where
  ro : Res B wr 2 1 (some ⟨go, 0, none⟩) no oc (intRows O)
  rr : Res B wr 2 1 (some ⟨gr, 0, none⟩) nr rc (intRows R)
  ne : go ≠ gr
  bl : Below B w wr
namespace Two
variable {B : Nat} {w wr w' : World} {go no oc gr nr rc : Nat} {O R : List Int}
theorem hB (h : Two B w wr go no oc gr nr rc O R) : B ≤ wr.heap.size := by have := h.ro.lt rfl; omega
theorem app1 (h : Two B w wr go no oc gr nr rc O R) {O5 : Option Addr} {oc5 : Nat} {x : Int} (hR : Res B w' 2 1 O5 (no + 1) oc5 (intRows O ++ [[.int .i64 x]])) (hb : Below B wr w') (hk : KeptBut wr w' (some ⟨go, 0, none⟩)) (ho : blkOf O5 = blkOf (some ⟨go, 0, none⟩) ∨ blkOf O5 = some (wr.heap.size + 1)) :
    ∃ g5, O5 = some ⟨g5, 0, none⟩ ∧ Two B w w' g5 (no + 1) oc5 gr nr rc (O ++ [x]) R := by
  obtain ⟨g5, _, e, _, _, _, _⟩ := hR.at_ (by omega)
  subst e
  have h1 := h.rr.lt rfl; have h3 := h.ne
  have hg : g5 = go ∨ g5 = wr.heap.size + 1 := by
    rcases ho with e | e
    · left; injection e
    · right; injection e
  rw [← intRows_snoc] at hR
  exact ⟨g5, rfl, hR, h.rr.keptBut hk (fun g e => by injection e with e; injection e with e; subst e; intro h9; injection h9 with h9; exact h3 h9.symm), by omega, h.bl.trans hb⟩
theorem flip (h : Two B w wr go no oc gr nr rc O R) : Two B w wr gr nr rc go no oc R O := ⟨h.rr, h.ro, Ne.symm h.ne, h.bl⟩
theorem app2 (h : Two B w wr go no oc gr nr rc O R) {O5 : Option Addr} {oc5 : Nat} {x : Int} (hR : Res B w' 2 1 O5 (nr + 1) oc5 (intRows R ++ [[.int .i64 x]])) (hb : Below B wr w') (hk : KeptBut wr w' (some ⟨gr, 0, none⟩)) (ho : blkOf O5 = blkOf (some ⟨gr, 0, none⟩) ∨ blkOf O5 = some (wr.heap.size + 1)) :
    ∃ g5, O5 = some ⟨g5, 0, none⟩ ∧ Two B w w' go no oc g5 (nr + 1) oc5 O (R ++ [x]) := by
  obtain ⟨g5, e, t⟩ := h.flip.app1 hR hb hk ho
  exact ⟨g5, e, t.flip⟩
theorem past (h : Two B w wr go no oc gr nr rc O R) (hb : Below wr.heap.size wr w') : Two B w w' go no oc gr nr rc O R :=
  ⟨h.ro.past hb, h.rr.past hb, h.ne, h.bl.trans (hb.mono h.hB)⟩
theorem cell1 (h : Two B w wr go no oc gr nr rc O R) {k : Nat} {x : Int} (hx : O[k]? = some x) : wr.cell? ⟨go, k, none⟩ = some (.int .i64 x) ∧ wr.frozen? ⟨go, k, none⟩ = false := by
  obtain ⟨g', h1, _, _, h2, h3, _⟩ := h.ro.putInt hx
  injection h1 with h1; injection h1 with h1; subst h1
  exact ⟨h2, h3⟩
theorem cell2 (h : Two B w wr go no oc gr nr rc O R) {k : Nat} {x : Int} (hx : R[k]? = some x) : wr.cell? ⟨gr, k, none⟩ = some (.int .i64 x) ∧ wr.frozen? ⟨gr, k, none⟩ = false := h.flip.cell1 hx
theorem put1 (h : Two B w wr go no oc gr nr rc O R) {k : Nat} {x : Int} (hx : O[k]? = some x) (v : Int) : Two B w (wr.setCell ⟨go, k, none⟩ (.int .i64 v)) go no oc gr nr rc (O.set k v) R := by
  obtain ⟨g', h1, h2, _, _, _, h4⟩ := h.ro.putInt hx
  injection h1 with h1; injection h1 with h1; subst h1
  exact ⟨h4 v, h.rr.keep (fun g e => by injection e with e; injection e with e; subst e; exact Below.heap_setCell _ _ _ _ (fun e => h.ne (show go = gr from e.symm))), h.ne, h.bl.setCell (p := ⟨go, k, none⟩) h2 _⟩
theorem put2 (h : Two B w wr go no oc gr nr rc O R) {k : Nat} {x : Int} (hx : R[k]? = some x) (v : Int) : Two B w (wr.setCell ⟨gr, k, none⟩ (.int .i64 v)) go no oc gr nr rc O (R.set k v) := (h.flip.put1 hx v).flip
end Two
theorem rests_take (a s : Int) (ws : List Int) (k : Nat) : (rests a s ws).take k = rests a s (ws.take k) := by simp [rests, List.map_take]
theorem rests_get {a s : Int} {ws : List Int} {k : Nat} {x : Int} (h : ws[k]? = some x) : (rests a s ws)[k]? = some (a * x % s) := by simp [rests, h]
theorem rests_length (a s : Int) (ws : List Int) : (rests a s ws).length = ws.length := by simp [rests]
theorem topAt_step {r : List Int} {k : Nat} {x y : Int} (hx : r[k]? = some x) (hy : r[topAt r k]? = some y) : topAt r (k + 1) = if y < x then k else topAt r k := by
  show (if r.getD (topAt r k) 0 < r.getD k 0 then k else topAt r k) = _
  rw [List.getD_eq_getElem?_getD, List.getD_eq_getElem?_getD, hx, hy]; rfl
theorem rounds_bound {a s : Int} {ws : List Int} (ha : 0 ≤ a) (hw : ∀ x ∈ ws, 0 ≤ x) (hsd : s = ws.sum) (hs : 0 < s) : ∀ j, (∀ x ∈ (rounds (quots a s ws) (rests a s ws) j).1, 0 ≤ x ∧ x ≤ a + j) ∧ (∀ x ∈ (rounds (quots a s ws) (rests a s ws) j).2, -1 ≤ x ∧ x < s)
  | 0 => by
    refine ⟨fun x hx => ?_, fun x hx => ?_⟩
    · subst hsd; have := quots_bound ha hw hs x hx; omega
    · have := rests_nonneg hs ws x hx; omega
  | j + 1 => by
    obtain ⟨h1, h2⟩ := rounds_bound ha hw hsd hs j
    have hg : 0 ≤ (rounds (quots a s ws) (rests a s ws) j).1.getD (topAt (rounds (quots a s ws) (rests a s ws) j).2 (rests a s ws).length) 0 ∧ (rounds (quots a s ws) (rests a s ws) j).1.getD (topAt (rounds (quots a s ws) (rests a s ws) j).2 (rests a s ws).length) 0 ≤ a + j := by
      rw [List.getD_eq_getElem?_getD]
      cases he : (rounds (quots a s ws) (rests a s ws) j).1[topAt (rounds (quots a s ws) (rests a s ws) j).2 (rests a s ws).length]? with
      | none => simp; omega
      | some y => exact h1 y (List.mem_of_getElem? he)
    refine ⟨fun x hx => ?_, fun x hx => ?_⟩
    · rcases List.mem_or_eq_of_mem_set hx with h' | h'
      · have := h1 x h'; omega
      · omega
    · rcases List.mem_or_eq_of_mem_set hx with h' | h'
      · exact h2 x h'
      · omega
set_option maxRecDepth 20000 in
set_option maxHeartbeats 8000000 in
theorem spec_l01Share_any (a : Int) (X : Option Addr) (m xc : Nat) (ws : List Int) (w : World) (hl : ws.length = m) (hm0 : 1 ≤ m) (hm : m ≤ 30) (hX : Rd w w.heap.size X 1 (intRows ws)) (hw : ∀ x ∈ ws, 0 ≤ x ∧ x ≤ 1000000000) (ha : 0 ≤ a ∧ a ≤ 1000000000) (hs : 0 < ws.sum) :
    Calls Tryz.prog 120 #[.int .i64 a, .slice X m xc] w fun e w' => ∃ A' c', e = .returned (.slice A' m c') ∧ Res w.heap.size w' 2 1 A' m c' (intRows (sharesL a ws)) ∧ Below w.heap.size w w' := by
  obtain ⟨a0, a1⟩ := ha
  have hs2 := sums_of (xs := ws) (n := 30) (hi := 1000000000) (by omega) (by omega) hw (by omega)
  obtain ⟨HSU, _, hs1⟩ := hs2
  have HSU := Lib.hid HSU
  have hs3 : ws.sum ≤ 30000000000 := by omega
  have HL := Lib.hid hl; clear hl
  have HWB := Lib.hid hw; clear hw
  have HX := Lib.hid hX; clear hX
  have HQS := Lib.hid (quots_sums a0 a1 (fun x hx => (HWB.out x hx).1) hs (by rw [HL.out]; exact hm))
  have HLB := Lib.hid (leftS_bound (a := a) hs)
  obtain ⟨i0, hi0, hz0, hz1, hz2⟩ := info_parts Int64.info
  have HI := Lib.hid (And.intro hi0 (And.intro hz0 (And.intro hz1 hz2))); clear hi0 hz0 hz1 hz2
  obtain ⟨s, hsd⟩ : ∃ s, s = ws.sum := ⟨_, rfl⟩
  have HSD := Lib.hid hsd
  rw [← hsd] at hs hs3 HQS hs1
  clear hsd
  have HT0 := Lib.hid (show Two w.heap.size w ((w.alloc (.cells #[] 2)).alloc (.cells #[] 2)) w.heap.size 0 0 (w.heap.size + 1) 0 0 [] [] from
    ⟨(Res.zero_at (Nat.le_refl _) rfl).alloc _, Res.zero_at (by simp) (by simp), by omega, ((Below.refl _ w).alloc (Nat.le_refl _) _).alloc (by simp) _⟩)
  go_enter Tryz.func120, Tryz.ntmps120
  go_wp2_with (go_at_call 119; refine (spec_l01Sum_any X m xc ws _ HL.out (by omega) HX.out HSU.out).mono ?_; rw [← HSD.out]; rintro e w' ⟨rfl, rfl⟩)
  go_loopw [6, 7, 8] (fun o r i wr => ∃ (k go oc gr rc : Nat), k ≤ m ∧ i = .int .i64 k ∧ o = .slice (some ⟨go, 0, none⟩) k oc ∧ r = .slice (some ⟨gr, 0, none⟩) k rc ∧ Hid (Two w.heap.size w wr go k oc gr k rc ((quots a s ws).take k) ((rests a s ws).take k))) (fun _ _ i _ => m - (intOf i).toNat)
  case atStart => exact ⟨0, _, 0, _, 0, by omega, rfl, rfl, rfl, HT0⟩
  case round =>
    clear HT0
    obtain ⟨k, go, oc, gr, rc, hk, rfl, rfl, rfl, HT⟩ := hrel
    by_cases hlt : k < m
    · obtain ⟨x, hx⟩ := get_of_lt (xs := ws) (k := k) (by rw [HL.out]; exact hlt)
      obtain ⟨x0, x1⟩ := HWB.out x (List.mem_of_getElem? hx)
      have m1 := Int.mul_nonneg a0 x0
      have m2 := Int.mul_le_mul a1 x1 x0 (by omega)
      have HR := Lib.hid (HX.out.below HT.out.bl)
      obtain ⟨ad, rfl, had, hc⟩ := HR.out.int_at hx
      have HXG := Lib.hid hx; clear hx
      have hki : (k : Int) < (m : Int) := by omega
      have HLE := Lib.hid HT.out.hB
      have HSZ := Lib.hid (Nat.lt_of_lt_of_le had HLE.out)
      have HC := Lib.hid hc
      go_upto_region 7 with (at_builtin; refine wpList_append_row_at _ rfl (.tmp 22) (.tmp 31) 24 rfl w.heap.size 2 i0 _ 1 8 Tryz.underlying24 HI.out.1 HI.out.2.1 HI.out.2.2.1 HI.out.2.2.2 rfl (by decide) (by decide) _ k oc _ rfl HT.out.ro [.int .i64 _] _ rfl rfl (by simp [Value.oneCell']) (by omega) HLE.out ?_; intro O5 oc5 w5 hO5 hb5 hk5 ho5)
      obtain ⟨g5, e5, t5⟩ := HT.out.app1 hO5 hb5 hk5 ho5
      subst e5
      have HT5 := Lib.hid t5
      have hc : w5.cell? (ad.add k) = some (.int .i64 x) := (hb5.cell (p := ad.add k) (by rw [block_of_add]; exact had)).trans HC.out
      have HLE5 := Lib.hid HT5.out.hB
      clear hO5 hb5 hk5 ho5 t5
      go_wp2_with (at_builtin; refine wpList_append_row_at _ rfl (.tmp 33) (.tmp 42) 24 rfl w.heap.size 2 i0 _ 1 8 Tryz.underlying24 HI.out.1 HI.out.2.1 HI.out.2.2.1 HI.out.2.2.2 rfl (by decide) (by decide) _ k rc _ rfl HT5.out.rr [.int .i64 _] _ rfl rfl (by simp [Value.oneCell']) (by omega) HLE5.out ?_; intro O6 oc6 w6 hO6 hb6 hk6 ho6)
      obtain ⟨g6, e6, t6⟩ := HT5.out.app2 hO6 hb6 hk6 ho6
      subst e6
      have HT6 := Lib.hid t6
      clear hO6 hb6 hk6 ho6 t6
      go_wp2
      go_roundw
      case rel => exact ⟨k + 1, _, _, _, _, by omega, by go_num, rfl, rfl, Lib.hid (by rw [take_succ_snoc (quots_get HXG.out), take_succ_snoc (rests_get HXG.out)]; exact HT6.out)⟩
      case measure => simp [intOf]; omega
    · have hkm : k = m := by omega
      subst hkm
      rename World => w1
      have HT2 := Lib.hid (show Two w.heap.size w w1 go k oc gr k rc (rounds (quots a s ws) (rests a s ws) 0).1 (rounds (quots a s ws) (rests a s ws) 0).2 by
        have h := HT.out
        rw [take_all (by rw [quots_length]; exact HL.out), take_all (by rw [rests_length]; exact HL.out)] at h
        exact h)
      clear HT
      have HRB := Lib.hid (rounds_bound (a := a) (s := s) (ws := ws) a0 (fun x hx => (HWB.out x hx).1) HSD.out hs)
      have HRL := Lib.hid (fun j => rounds_length (quots a s ws) (rests a s ws) j)
      obtain ⟨d, hd⟩ : ∃ d, d = (leftS a ws).toNat := ⟨_, rfl⟩
      have HDD := Lib.hid hd
      have hd30 : d ≤ 30 := by have := HLB.out.2; have := HL.out; omega
      have HDS := Lib.hid (show (quots a s ws).sum = a - (d : Int) by have := HLB.out.1; rw [hd]; have e : leftS a ws = a - (quots a ws.sum ws).sum := rfl; rw [← HSD.out] at e; omega)
      clear hd
      go_wp2_with (go_at_call 119; refine (spec_l01Sum_any (some ⟨go, 0, none⟩) k oc (quots a s ws) _ (by rw [quots_length]; exact HL.out) (by omega) HT2.out.ro.rd HQS.out).mono ?_; rw [HDS.out]; rintro e w' ⟨rfl, rfl⟩)
      go_loopw [9] (fun l wr => ∃ j : Nat, j ≤ d ∧ l = .int .i64 ((d : Int) - (j : Int)) ∧ Hid (Two w.heap.size w wr go k oc gr k rc (rounds (quots a s ws) (rests a s ws) j).1 (rounds (quots a s ws) (rests a s ws) j).2)) (fun l _ => (intOf l).toNat)
      case atStart => exact ⟨0, by omega, by congr 1; omega, HT2⟩
      case round =>
        clear HT2
        obtain ⟨j, hj, rfl, HT⟩ := hrel
        rename World => w2
        by_cases hjd : j < d
        · have hpos : (0 : Int) < (d : Int) - (j : Int) := by omega
          obtain ⟨O, hO⟩ : ∃ O, O = (rounds (quots a s ws) (rests a s ws) j).1 := ⟨_, rfl⟩
          obtain ⟨R, hR⟩ : ∃ R, R = (rounds (quots a s ws) (rests a s ws) j).2 := ⟨_, rfl⟩
          have hOl : O.length = k := by rw [hO, (HRL.out j).1, quots_length]; exact HL.out
          have hRl : R.length = k := by rw [hR, (HRL.out j).2, rests_length]; exact HL.out
          have hOB : ∀ x ∈ O, 0 ≤ x ∧ x ≤ a + j := by rw [hO]; exact (HRB.out j).1
          have hRB : ∀ x ∈ R, -1 ≤ x ∧ x < s := by rw [hR]; exact (HRB.out j).2
          rw [← hO, ← hR] at HT
          have HO := Lib.hid hO; have HR := Lib.hid hR; have HOL := Lib.hid hOl; have HRL2 := Lib.hid hRl; have HOB := Lib.hid hOB; have HRB2 := Lib.hid hRB
          clear hO hR hOl hRl hOB hRB
          go_wp2
          go_loopw [10, 11] (fun b i wr => ∃ q : Nat, q ≤ k ∧ i = .int .i64 q ∧ b = .int .i64 ((topAt R q : Nat) : Int) ∧ Hid (Below w2.heap.size w2 wr)) (fun _ i _ => k - (intOf i).toNat)
          case atStart => exact ⟨0, by omega, rfl, rfl, Lib.hid (Below.refl _ _)⟩
          case round =>
            obtain ⟨q, hq, rfl, rfl, HBB⟩ := hrel
            rename World => w3
            have HT3 := Lib.hid (HT.out.past HBB.out)
            by_cases hqk : q < k
            · have hqi : (q : Int) < (k : Int) := by omega
              have htq : topAt R q < k := by
                rcases Nat.eq_zero_or_pos q with h | h
                · subst h; exact hqk
                · have := topAt_lt R q h; omega
              have hti : ((topAt R q : Nat) : Int) < (k : Int) := by omega
              obtain ⟨x, hx⟩ := get_of_lt (xs := R) (k := q) (by rw [HRL2.out]; exact hqk)
              obtain ⟨y, hy⟩ := get_of_lt (xs := R) (k := topAt R q) (by rw [HRL2.out]; exact htq)
              have HE := Lib.hid (topAt_step hx hy)
              have d1 := fun z : Past w3 => Past.cell (HT3.out.cell2 hx).1 z
              have d2 := fun z : Past w3 => Past.cell (HT3.out.cell2 hy).1 z
              clear hx hy
              by_cases hxy : y < x
              · have hb : decide (y < x) = true := by simpa using hxy
                have HXY := Lib.hid hxy; clear hxy
                go_wp2
                refine wp_region_past (by kernel_rfl) (by kernel_rfl) ?_
                repeat (go_big_quiet_step (fail))
                refine wpQuiet_nil ?_
                rintro _ ⟨z, rfl⟩
                go_wp2
                go_roundw
                case rel => exact ⟨q + 1, by omega, by go_num, by rw [HE.out, if_pos HXY.out], Lib.hid (HBB.out.trans (z.2.mono HBB.out.size))⟩
                case measure => simp [intOf]; omega
              · have hb : decide (y < x) = false := by simpa using hxy
                have HXY := Lib.hid hxy; clear hxy
                go_wp2
                refine wp_region_past (by kernel_rfl) (by kernel_rfl) ?_
                repeat (go_big_quiet_step (fail))
                refine wpQuiet_nil ?_
                rintro _ ⟨z, rfl⟩
                go_wp2
                go_roundw
                case rel => exact ⟨q + 1, by omega, by go_num, by rw [HE.out, if_neg (by have := HXY.out; omega)], Lib.hid (HBB.out.trans (z.2.mono HBB.out.size))⟩
                case measure => simp [intOf]; omega
            · have hqe : q = k := by omega
              subst hqe
              have htq : topAt R q < q := topAt_lt R q (by omega)
              have hti : ((topAt R q : Nat) : Int) < (q : Int) := by omega
              obtain ⟨x, hx⟩ := get_of_lt (xs := O) (k := topAt R q) (by rw [HOL.out]; exact htq)
              obtain ⟨y, hy⟩ := get_of_lt (xs := R) (k := topAt R q) (by rw [HRL2.out]; exact htq)
              obtain ⟨x0, x1⟩ := HOB.out x (List.mem_of_getElem? hx)
              obtain ⟨c1, z1⟩ := HT3.out.cell1 hx
              have HT4 := Lib.hid (HT3.out.put1 hx (x + 1))
              have HGX := Lib.hid hx; have HGY := Lib.hid hy
              obtain ⟨tq, htq2⟩ : ∃ tq, tq = topAt R q := ⟨_, rfl⟩
              have HTQ := Lib.hid htq2
              rw [← htq2] at hti c1 z1 HT4 HGX HGY ⊢
              clear htq2 hx hy htq
              go_upto_region 18 with fail
              generalize w3.setCell ⟨go, tq, none⟩ (.int .i64 (x + 1)) = w4 at HT4 ⊢
              obtain ⟨c2, z2⟩ := HT4.out.cell2 HGY.out
              have HT5 := Lib.hid (HT4.out.put2 HGY.out (-1))
              clear c1 z1
              go_wp2
              go_roundw
              case rel =>
                refine ⟨j + 1, by omega, by congr 1; omega, Lib.hid ?_⟩
                have hrl : (rests a s ws).length = q := by rw [rests_length]; exact HL.out
                show Two w.heap.size w _ go q oc gr q rc ((rounds (quots a s ws) (rests a s ws) j).1.set (topAt (rounds (quots a s ws) (rests a s ws) j).2 (rests a s ws).length) ((rounds (quots a s ws) (rests a s ws) j).1.getD (topAt (rounds (quots a s ws) (rests a s ws) j).2 (rests a s ws).length) 0 + 1)) ((rounds (quots a s ws) (rests a s ws) j).2.set (topAt (rounds (quots a s ws) (rests a s ws) j).2 (rests a s ws).length) (-1))
                rw [hrl, ← HO.out, ← HR.out, ← HTQ.out, show O.getD tq 0 = x by rw [List.getD_eq_getElem?_getD, HGX.out]; rfl]
                exact HT5.out
              case measure => simp [intOf]; omega
        · have hje : j = d := by omega
          have hpos : ¬ (0 : Int) < (d : Int) - (j : Int) := by omega
          have HQ := Lib.hid (show (rounds (quots a s ws) (rests a s ws) j).1 = sharesL a ws by unfold sharesL; rw [hje, HDD.out, HSD.out])
          clear hje
          go_wp2
          go_ret
          exact ⟨_, oc, rfl, by rw [← HQ.out]; exact HT.out.ro, HT.out.bl⟩
end Go.Proofs.YtbjdbpdgacfcpaaGreat
end

/- The weights by which a bonus is divided: plain functions and their laws. No program. -/
section
namespace Go.Proofs.YtbjdbpdgacfcpaaGreat
open Go.RowKit Go.BigFrame

def wtV (b : Bas) (x : Holding) : Int := resV b x * x.year
def wtL (b : Bas) (xs : List Holding) : List Int := xs.map (wtV b)
def mostFrom (a : Int) (ws : List Int) : Int := ws.foldl max a
def mostL (ws : List Int) : Int := mostFrom 0 ws
def scaleF (m : Int) : Nat → Int → Int
  | 0, p => p
  | n + 1, p => if m / p ≤ 1000000000 then p else scaleF m n (10 * p)
def scaleP (ws : List Int) : Int := scaleF (mostL ws) 10 1
def scaled (ws : List Int) (p : Int) : List Int := ws.map (· / p)
def weightsL (b : Bas) (xs : List Holding) : List Int := scaled (wtL b xs) (scaleP (wtL b xs))
def weightsP (b : Bas) (xs : List Holding) : List Int × Int := if portB b xs = true then (weightsL b xs, 0) else ([], 1)
theorem mostFrom_le : ∀ {ws : List Int} {a : Int}, a ≤ mostFrom a ws ∧ ∀ x ∈ ws, x ≤ mostFrom a ws
  | [], a => ⟨by simp [mostFrom], by simp⟩
  | y :: ws, a => by
    have h := mostFrom_le (ws := ws) (a := max a y)
    have e : mostFrom a (y :: ws) = mostFrom (max a y) ws := rfl
    rw [e]
    refine ⟨by omega, fun x hx => ?_⟩
    rcases List.mem_cons.1 hx with rfl | hx
    · omega
    · exact h.2 x hx
theorem mostFrom_mem : ∀ {ws : List Int} {a : Int}, mostFrom a ws = a ∨ mostFrom a ws ∈ ws
  | [], a => .inl rfl
  | y :: ws, a => by
    have e : mostFrom a (y :: ws) = mostFrom (max a y) ws := rfl
    rw [e]
    rcases mostFrom_mem (ws := ws) (a := max a y) with h | h
    · rw [h]
      by_cases hy : a ≤ y
      · right; rw [Int.max_eq_right hy]; simp
      · left; exact Int.max_eq_left (by omega)
    · right; simp [h]
theorem mostL_snoc {ws : List Int} {k : Nat} {x : Int} (h : ws[k]? = some x) : mostL (ws.take (k + 1)) = max (mostL (ws.take k)) x := by
  rw [take_succ_snoc h]; simp [mostL, mostFrom]
theorem any_most {ws : List Int} {p : Int} (hp : 1 ≤ p) (_h : ∀ x ∈ ws, 0 ≤ x) : (ws.any fun x => decide (1000000000 < x / p)) = decide (1000000000 < mostL ws / p) := by
  have h1 := mostFrom_le (ws := ws) (a := 0)
  by_cases hm : 1000000000 < mostL ws / p
  · rw [decide_eq_true hm, List.any_eq_true]
    rcases mostFrom_mem (ws := ws) (a := 0) with h2 | h2
    · unfold mostL at hm; rw [h2] at hm; simp at hm
    · exact ⟨_, h2, by simpa [mostL] using hm⟩
  · rw [decide_eq_false hm, List.any_eq_false]
    intro x hx
    have h3 : x / p ≤ mostL ws / p := Int.ediv_le_ediv (by omega) (h1.2 x hx)
    simp; omega
theorem mostL_bound {ws : List Int} {hi : Int} (h0 : 0 ≤ hi) (h : ∀ x ∈ ws, 0 ≤ x ∧ x ≤ hi) : 0 ≤ mostL ws ∧ mostL ws ≤ hi := by
  have h1 := mostFrom_le (ws := ws) (a := 0)
  refine ⟨h1.1, ?_⟩
  rcases mostFrom_mem (ws := ws) (a := 0) with h2 | h2
  · unfold mostL; omega
  · exact (h _ h2).2
theorem hold_year {b : Bas} {x : Holding} (H : holdB b x = true) : 0 ≤ x.year ∧ x.year ≤ 150 := by
  obtain ⟨_, Y⟩ := hold_ok H
  have h1 : x.year ≤ durP b x.pol - 1 := Y.k1
  have h2 := dur_bound Y.toPolOk
  exact ⟨Y.k0, by omega⟩
theorem wtV_bound {b : Bas} {x : Holding} (H : holdB b x = true) : 0 ≤ wtV b x ∧ wtV b x ≤ 20000000000000000 := by
  have h1 := resV_bound H
  have h2 := hold_year H
  have h3 : resV b x * x.year ≤ 100000001000000 * 150 := Int.mul_le_mul h1.2 h2.2 h2.1 (by omega)
  have h4 := Int.mul_nonneg h1.1 h2.1
  unfold wtV
  omega
theorem wtL_get {b : Bas} {xs : List Holding} {k : Nat} {x : Holding} (h : xs[k]? = some x) : (wtL b xs)[k]? = some (wtV b x) := by simp [wtL, h]
theorem wtL_bound {b : Bas} {xs : List Holding} (hh : ∀ x ∈ xs, holdB b x = true) : ∀ v ∈ wtL b xs, 0 ≤ v ∧ v ≤ 20000000000000000 := by
  intro v hv
  obtain ⟨x, hx, rfl⟩ := List.mem_map.1 hv
  exact wtV_bound (hh x hx)
/-- the powers of ten that are tried: n more at most -/
def Trying (m : Int) (n : Nat) (p : Int) : Prop := 1 ≤ p ∧ p * 10 ^ n = 10000000000 ∧ scaleF m 10 1 = scaleF m n p
theorem Trying.start (m : Int) : Trying m 10 1 := ⟨by omega, rfl, rfl⟩
theorem Trying.bound {m : Int} {n : Nat} {p : Int} (h : Trying m n p) : p ≤ 10000000000 := by
  have h1 : (1 : Int) ≤ 10 ^ n := Int.pow_pos (by omega)
  have h2 : p * 1 ≤ p * 10 ^ n := Int.mul_le_mul_of_nonneg_left h1 (by have := h.1; omega)
  have := h.2.1
  omega
theorem Trying.done {m : Int} {n : Nat} {p : Int} (h : Trying m n p) (hm : m / p ≤ 1000000000) : scaleF m 10 1 = p := by
  rw [h.2.2]
  cases n with
  | zero => rfl
  | succ n => rw [scaleF, if_pos hm]
theorem Trying.next {m : Int} {n : Nat} {p : Int} (h : Trying m n p) (h0 : 0 ≤ m ∧ m ≤ 20000000000000000) (hm : ¬ m / p ≤ 1000000000) : ∃ n', n = n' + 1 ∧ Trying m n' (p * 10) ∧ p ≤ 1000000000 := by
  cases n with
  | zero =>
    have h1 := h.2.1
    rw [Int.pow_zero, Int.mul_one] at h1
    subst h1
    omega
  | succ n =>
    have h1 := h.2.1
    have h2 : p * 10 * 10 ^ n = 10000000000 := by rw [Int.mul_assoc, Int.mul_comm 10, ← Int.pow_succ]; exact h1
    have h3 : Trying m n (p * 10) := ⟨by have := h.1; omega, h2, by rw [h.2.2, scaleF, if_neg hm, Int.mul_comm]⟩
    have := h3.bound
    exact ⟨n, rfl, h3, by omega⟩
/-- the first k are divided, the others not yet -/
def partly (ws : List Int) (p : Int) (k : Nat) : List Int := (ws.take k).map (· / p) ++ ws.drop k
theorem partly_zero (ws : List Int) (p : Int) : partly ws p 0 = ws := by simp [partly]
theorem partly_all {ws : List Int} {p : Int} {n : Nat} (h : ws.length = n) : partly ws p n = scaled ws p := by
  unfold partly scaled; rw [List.take_of_length_le (by omega), List.drop_of_length_le (by omega), List.append_nil]
theorem partly_get {ws : List Int} {p : Int} {k : Nat} {x : Int} (h : ws[k]? = some x) : (partly ws p k)[k]? = some x := by
  have hk := (List.getElem?_eq_some_iff.1 h).1
  unfold partly
  rw [List.getElem?_append_right (by simp; omega)]
  simp [Nat.min_eq_left (Nat.le_of_lt hk), h]
theorem partly_next {ws : List Int} {p : Int} {k : Nat} {x : Int} (h : ws[k]? = some x) : (partly ws p k).set k (x / p) = partly ws p (k + 1) := by
  have hk := (List.getElem?_eq_some_iff.1 h).1
  have hx : ws[k] = x := by rw [List.getElem?_eq_getElem hk] at h; injection h
  unfold partly
  have e : k - ((ws.take k).map (· / p)).length = 0 := by simp; omega
  rw [List.set_append_right _ _ (by simp; omega), take_succ_snoc h, List.drop_eq_getElem_cons hk, e, List.set_cons_zero, List.map_append, List.append_assoc]
  rfl
theorem weights_small (b : Bas) (xs : List Holding) : (weightsP b xs).1.length ≤ 1048576 := by
  unfold weightsP
  split
  · rename_i h
    have := (port_hold h).1
    simp [weightsL, scaled, wtL]; omega
  · simp
end Go.Proofs.YtbjdbpdgacfcpaaGreat
end
