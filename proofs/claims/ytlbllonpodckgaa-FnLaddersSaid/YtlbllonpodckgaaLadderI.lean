/- slices.Backward over a slice of integers: what its iterator hands to the loop's body. No condition but the lengths. -/
import Derived.RangeFuncNested
import Derived.RangeFuncBound
import Derived.RangeFuncCalls
import Derived.RangeFuncLeaves
import Derived.Shelf.Abstract
import Derived.Shelf.RegionOpen
import Derived.WalkKit
import Derived.OwnWalkIn
import Derived.TacticsInMore
import Derived.LoopNIn
import Derived.LoopIn
import Derived.Test.YtlbllonpodckgaaLadderR
namespace Go.Proofs.Ytlbllonpodckgaa
open Go.RowKit Go.Shelf Go.BigFrame
attribute [local go_sem] Oper.semAt_some

/-- what a round that goes on keeps: what lay below n₀, and the iterator's own box -/
def KpB (n₀ Bs : Nat) (W W' : World) : Prop := Below n₀ W W' ∧ W'.heap[Bs]? = W.heap[Bs]?
theorem KpB.trans {n₀ Bs : Nat} {A B C : World} (h : KpB n₀ Bs A B) (k : KpB n₀ Bs B C) : KpB n₀ Bs A C := ⟨h.1.trans k.1, k.2.trans h.2⟩
theorem KpB.put {n₀ Bs : Nat} {w : World} (hn : n₀ ≤ w.heap.size) (hs : Bs < w.heap.size) (W : World) (l : Nat) (o o' : Obj) (hl : w.heap.size ≤ l) (h : W.heap[l]? = some o) (hc : o.isCells = false) (hw : o.isWalk = false) : KpB n₀ Bs W (W.putObj l o') :=
  ⟨belowK_b hn W l o o' hl h hc hw, World.putObj_heap_other (by omega)⟩
theorem KpB.blk {n₀ Bs : Nat} {A B : World} {t : TypeId} {cs : Array Value} (h : KpB n₀ Bs A B) (hb : Blk A Bs t cs) : Blk B Bs t cs := h.2.trans hb
theorem KpB.rfl' (n₀ Bs : Nat) (W : World) : KpB n₀ Bs W W := ⟨Below.refl _ _, rfl⟩

set_option maxRecDepth 100000 in
set_option maxHeartbeats 2000000 in
theorem backward1_in (F : Fence) (d : Nat) (hfn : F.fn 65) (hro : F.round = none) (hd : 1 ≤ d) (l Bs n₀ : Nat) (A : Option Addr) (n cap : Nat) (ys : List Int) (hl : ys.length = n) (hn : n ≤ 1048576) (J Jx : List NdK → World → Prop)
    (hY : ∀ (pre : List NdK) (x : NdK) (W : World), J pre W → pre.length < n → YieldAt F (d - 1) Try.prog l #[.int .i64 (x.1 : Int), .int .i64 (ndV ys x.1)] W fun e W' =>
      (e = .returned (.bool true) ∧ J (pre ++ [x]) W' ∧ KpB n₀ Bs W W') ∨ (e = .returned (.bool false) ∧ Jx (pre ++ [x]) W'))
    (W : World) (hBs : Blk W Bs 33 #[.slice A n cap]) (hR : Rd W n₀ A 1 (intRows ys)) (h0 : J [] W) :
    CallsIn F d Try.prog 65 #[.func (.yield l) #[] #[], .pointer (some ⟨Bs, 0, none⟩)] W fun e W' => (∃ v, e = .returned v) ∧
      ((∃ zs, zs = dnK n hn n ∧ J zs W') ∨ (∃ pre, (∃ j, j ≤ n ∧ pre = dnK n hn j) ∧ Jx pre W')) := by
  have hb0 : W.cell? ⟨Bs, 0, none⟩ = some (.slice A n cap) := hBs.cell 0
  refine callsIn_of_wp Try.func65 rfl hfn ?_ hro
  simp only [Try.ntmps65, List.size_toArray, List.length_cons, List.length_nil, Nat.reduceAdd, Nat.reduceSub, Array.replicate_succ, Array.replicate_zero, List.push_toArray, List.append_toArray, List.nil_append, List.cons_append]
  gi_wp2
  gi_loopw [3] (fun i wr => ∃ r : Nat, r ≤ n ∧ i = .int .i64 ((r : Int) - 1) ∧ J (dnK n hn (n - r)) wr ∧ KpB n₀ Bs W wr)
    (fun i _ => (intOf i + 1).toNat)
  case atStart => exact ⟨n, Nat.le_refl _, by go_num, by rw [Nat.sub_self]; exact h0, KpB.rfl' _ _ _⟩
  case round =>
    obtain ⟨r, hr, rfl, hJs, hk⟩ := hrel
    cases r with
    | zero =>
      rw [show (((0 : Nat) : Int) - 1) = -1 from rfl]
      gi_wp2
      go_end0
      exact ⟨⟨_, rfl⟩, .inl ⟨_, rfl, hJs⟩⟩
    | succ r =>
      rw [show (((r + 1 : Nat) : Int) - 1) = (r : Int) by omega]
      have hr2 : r < n := by omega
      have hrK : r < 1048576 := by omega
      obtain ⟨z, hz⟩ := get_of_lt (xs := ys) (k := r) (by rw [hl]; exact hr2)
      have hzv : ndV ys r = z := by simp [ndV, hz]
      obtain ⟨ad, rfl, had, hcz⟩ := (hR.below hk.1).int_at hz
      have hbx : wr.cell? ⟨Bs, 0, none⟩ = some (.slice (some ad) n cap) := (hk.blk hBs).cell 0
      obtain ⟨fn, tmps, assign, body, hy, hRd⟩ := hY _ ⟨r, hrK⟩ wr hJs (by rw [dnK_length]; omega)
      dsimp only at hy hRd
      rw [hzv] at hy
      rw [← dnK_next hn hr2 hrK] at hRd
      gi_wp2
      refine hRd.mono ?_
      rintro e W3 (⟨rfl, hJ3, hk3⟩ | ⟨rfl, hJx3⟩)
      · gi_wp2
        go_roundw
        case rel => exact ⟨r, by omega, by go_num, hJ3, hk.trans hk3⟩
        case measure => simp [intOf]
      · gi_wp2
        refine bodyPost_ret (results_none rfl _ _ _) rfl ?_
        exact ⟨⟨_, rfl⟩, .inr ⟨_, ⟨n - r, by omega, rfl⟩, hJx3⟩⟩

set_option maxHeartbeats 1000000 in
theorem backward_in (F : Fence) (d : Nat) (hfn : F.fn 39) (hro : F.round = none) (A : Option Addr) (n cap : Nat) (w : World) :
    CallsIn F d Try.prog 39 #[.slice A n cap] w fun e w' => e = .returned (.func (.func 65) #[] #[.pointer (some ⟨w.heap.size, 0, none⟩)]) ∧ w' = w.alloc (.cells #[.slice A n cap] 33) := by
  refine callsIn_of_wp Try.func39 rfl hfn ?_ hro
  simp only [Try.ntmps39, List.size_toArray, List.length_cons, List.length_nil, Nat.reduceAdd, Nat.reduceSub, Array.replicate_succ, Array.replicate_zero, List.push_toArray, List.append_toArray, List.nil_append, List.cons_append]
  gi_wp2
  go_ret
  exact ⟨rfl, rfl⟩

theorem backward_stops (F : Fence) (d : Nat) (hfn : F.fn 65) (hro : F.round = none) (hd : 1 ≤ d) (Bs n₀ : Nat) (A : Option Addr) (n cap : Nat) (ys : List Int) (hl : ys.length = n) (hn : n ≤ 1048576) (w : World)
    (hn₀ : n₀ ≤ w.heap.size) (hBs : Blk w Bs 33 #[.slice A n cap]) (hR : Rd w n₀ A 1 (intRows ys)) :
    SeqStopsK F d Try.prog 65 #[.pointer (some ⟨Bs, 0, none⟩)] (fun x : NdK => #[Value.int .i64 (x.1 : Int), Value.int .i64 (ndV ys x.1)]) (KpB n₀ Bs) (fun zs => zs = dnK n hn n)
      (fun pre => ∃ j, j ≤ n ∧ pre = dnK n hn j) n w := fun l J Jx W hW _ _ hY h0 =>
  backward1_in F d hfn hro hd l Bs n₀ A n cap ys hl hn J Jx hY W (hBs.below' hW) (hR.below (hW.mono hn₀)) h0
end Go.Proofs.Ytlbllonpodckgaa
