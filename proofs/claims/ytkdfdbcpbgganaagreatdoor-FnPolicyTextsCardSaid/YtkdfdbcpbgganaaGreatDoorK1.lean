/- Parts of a proof, one after another: Tail, Draw, Num, Law, StInt, DrawA. No condition. -/
import Derived.Test.YtkdfdbcpbgganaaGreatDoorK0
import Derived.StillTail
import Derived.ProofKit
import Derived.OpenShut
import Derived.Deep.Slices
import Derived.Deep.Fields
import Derived.ChangeSame
/- A region that draws its order, whose first operations read (their calls may make memory) and whose last ones, in one forced order, write: one walk in the order of the text. No condition. -/
section
namespace Go.Proofs.YtkdfdbcpbgganaaGreatDoor
open Go.RowKit Go.BigFrame
section
variable {P : Program} {ops : Array Oper} {md : Region.Mode} {C : World → Prop} {n : Nat}

/-- f operations of the head are still to come, in whatever order; behind them L -/
def HeadQ (P : Program) (md : Region.Mode) (ops : Array Oper) (C : World → Prop) (n : Nat) (L : Array Bool → Act → Prop) : Nat → Array Bool → Act → Prop
  | 0, listed, a => L listed a
  | f + 1, listed, a => Region.ready md ops listed ≠ [] ∧ ∀ i ∈ Region.ready md ops listed, i < n ∧ qOp P ops C i (HeadQ P md ops C n L f (listed.setIfInBounds i true)) a

theorem HeadQ.any {g : Nat} {L : Array Bool → Act → Prop} {Q' : Exit → Act → World → Prop} (hL : ∀ listed a w, C w → L listed a → wpAny P md ops Q' g listed a w) :
    ∀ (f : Nat) (listed : Array Bool) (a : Act) (w : World), C w → HeadQ P md ops C n L f listed a → wpAny P md ops Q' (f + g) listed a w
  | 0, _, _, _, hw, h => by rw [Nat.zero_add]; exact hL _ _ _ hw h
  | f + 1, _, _, _, hw, h => by
    rw [show f + 1 + g = (f + g) + 1 by omega]
    exact ⟨fun h0 => absurd h0 h.1, fun i hi => wpOp_of_qOp hw (fun a' w' hw' h' => HeadQ.any hL f _ a' w' hw' h') (h.2 i hi).2⟩

theorem HeadQ.first {i : Nat} {oi : Oper} {v : Value} {L : Array Bool → Act → Prop} (hi : ops[i]? = some oi) (hsel : ∀ (j : Nat) (o : Oper) cs b, ops[j]? = some o → o.op ≠ .select cs b)
    (hs : Region.sinkB md ops n = true) (hc : Region.chainB md ops n = true) (hn : n < ops.size) (hin : i < n) (hdone : ∀ listed a, L listed a → ∀ j ∈ Region.ready md ops listed, n ≤ j) :
    ∀ (f : Nat) (listed : Array Bool) (a : Act), HeadInv md ops n listed →
      (∀ j oj, ops[j]? = some oj → j ≠ i → listed.getD j true = false → (∀ e ∈ oj.after, Region.binds md e = true → e.on ≠ i) → oi.apart ops oj = true) →
      i ∈ Region.ready md ops listed → YieldsIn P ops C oi v a → HeadQ P md ops C n L f (listed.setIfInBounds i true) (a.put oi.dst v) → HeadQ P md ops C n L (f + 1) listed a := by
  intro f
  induction f with
  | zero =>
    intro listed a inv _ hr hy H
    refine ⟨fun h => (by rw [h] at hr; cases hr), fun j hj => ?_⟩
    have hjn : j < n := Nat.lt_of_not_le fun h => tail_waits hs hc hn inv _ i rfl hin (mem_ready.1 hr).1 j h hj
    refine ⟨hjn, ?_⟩
    by_cases hji : j = i
    · subst hji; exact hy.qOp hi H
    · exact absurd (hdone _ _ H j (ready_mono hj hji)) (by omega)
  | succ f ih =>
    intro listed a inv hfree hr hy H
    refine ⟨fun h => (by rw [h] at hr; cases hr), fun j hj => ?_⟩
    have hun := (mem_ready.1 hr).1
    have hjn : j < n := Nat.lt_of_not_le fun h => tail_waits hs hc hn inv _ i rfl hin hun j h hj
    refine ⟨hjn, ?_⟩
    by_cases hji : j = i
    · subst hji; exact hy.qOp hi H
    obtain ⟨hjun, oj, hoj, hall⟩ := mem_ready.1 hj
    have hnot : ∀ e ∈ oj.after, Region.binds md e = true → e.on ≠ i := fun e he hb heq => by
      have h1 := hall e he hb
      rw [heq, getD_both hun] at h1
      cases h1
    have h2 := qOp_put hoj (hfree j oj hoj hji hjun hnot) (fun cs b => hsel i oi cs b hi) (fun cs b => hsel j oj cs b hoj) hy (H.2 j (ready_mono hj hji)).2
    refine qOp_mono (fun a' h3 => ih (listed.setIfInBounds j true) a' (inv.set hj hjn) (fun k ok hk hki hku hno => hfree k ok hk hki ?_ hno) (ready_mono hr (Ne.symm hji)) h3.1 ?_) h2
    · by_cases hjk : j = k
      · subst hjk; exact hjun
      · rwa [getD_set_ne true hjk] at hku
    · rw [Array.setIfInBounds_comm _ _ hji]; exact h3.2

theorem HeadQ.lex {g : Nat} {Lq : Act → Prop} (hsel : Region.noSelect ops = true) (hs : Region.sinkB md ops n = true) (hc : Region.chainB md ops n = true) (hn : n < ops.size) :
    ∀ (l : List Oper) (k : Nat) (listed : Array Bool) (a : Act), (∀ j, j < l.length → l[j]? = ops[k + j]?) → k + l.length = n → HeadInv md ops n listed →
    Region.lexHead md ops g l.length k listed = true → wpQuiet P ops C Lq l a → HeadQ P md ops C n (fun listed' a' => Region.seqB md ops g n listed' = true ∧ Lq a') l.length listed a
  | [], k, listed, a, _, hk, _, hB, h => by
    obtain rfl : k = n := by simpa using hk
    exact ⟨by simpa [Region.lexHead] using hB, h⟩
  | o :: l, k, listed, a, hl, hk, inv, hB, h => by
    have h0 : ops[k]? = some o := by simpa using (hl 0 (by simp)).symm
    simp only [List.length_cons, Region.lexHead, Bool.and_eq_true] at hB
    have hkn : k < n := by simp only [List.length_cons] at hk; omega
    have hr' : k ∈ Region.ready md ops listed := by simpa using hB.1.1
    obtain ⟨v, hy, hK⟩ := yieldsIn_of_qOp (C := C) h0 (show qOp P ops C k (wpQuiet P ops C Lq l) a by unfold qOp; simp only [h0]; exact h)
    exact HeadQ.first h0 (Region.noSelect_spec hsel) hs hc hn hkn (fun _ _ hL => seqB_ready hL.1) l.length listed a inv (Region.free_spec h0 hB.1.2) hr' hy
      (HeadQ.lex hsel hs hc hn l (k + 1) _ _ (fun j hj => by have := hl (j + 1) (by simp; omega); simpa [Nat.add_assoc, Nat.add_comm 1 j] using this) (by simp only [List.length_cons] at hk; omega) (inv.set hr' hkn) hB.2 hK)

theorem wp_region_quiet_tail {id : Nat} {Q : Exit → Act → World → Prop} {a : Act} {w : World} {l : List Oper} (n : Nat) (hm : P.follows .mixedOrders = true) (hB : Region.lexTailB .any l.toArray n = true) (hC : C w.drew)
    (h : wpQuiet P l.toArray C (fun a' => ∀ w', C w' → wpList P l.toArray Q (l.drop n) a' w') (l.take n) a) : (Code.region id l.toArray true).wp P Q a w := by
  simp only [Region.lexTailB, Bool.and_eq_true, decide_eq_true_eq] at hB
  obtain ⟨⟨⟨⟨hsel, hn⟩, hs⟩, hc⟩, hlex⟩ := hB
  have hn' : n < l.length := by simpa using hn
  have htl : (l.take n).length = n := by simp; omega
  have hdl : (l.drop n).length = l.toArray.size - n := by simp
  have inv0 : HeadInv .any l.toArray n (Array.replicate l.toArray.size false) :=
    ⟨by simp, fun j oj _ hl => (by rw [getD_replicate_false] at hl; cases hl), fun t _ ht => getD_in (by simpa using ht) (getD_replicate_false _ _)⟩
  have H := HeadQ.lex (md := .any) (g := l.toArray.size - n) hsel hs hc hn (l.take n) 0 _ a (fun j hj => by rw [htl] at hj; simp [hj]) (by simpa using htl) inv0 (by rw [htl]; exact hlex) h
  refine wp_region_any hm ?_
  have := HeadQ.any (Q' := Q) (g := l.toArray.size - n) (fun listed a' w' hw' hL => by
    have := wpAny_of_seq (md := .any) (Q' := Q) (l.drop n) n listed a' w' (fun j => by simp [List.getElem?_drop]) (by rw [hdl]; exact hL.1) (hL.2 w' hw')
    rwa [hdl] at this) _ _ _ _ hC H
  rw [htl, show n + (l.toArray.size - n) = l.toArray.size by omega] at this
  exact this
theorem wp_region_past_tail {id : Nat} {Q : Exit → Act → World → Prop} {a : Act} {w : World} {l : List Oper} (n : Nat) (hm : P.follows .mixedOrders = true) (hB : Region.lexTailB .any l.toArray n = true)
    (h : wpQuiet P l.toArray (fun w' => ∃ x : Past w, w' = x.1) (fun a' => ∀ w', (∃ x : Past w, w' = x.1) → wpList P l.toArray Q (l.drop n) a' w') (l.take n) a) : (Code.region id l.toArray true).wp P Q a w :=
  wp_region_quiet_tail (C := fun w' => ∃ x : Past w, w' = x.1) n hm hB ⟨⟨w.drew, (Below.refl _ _).drew⟩, rfl⟩ h
end
end Go.Proofs.YtkdfdbcpbgganaaGreatDoor
end

/- The source of the numbers that a law draws: what it is, what a number drawn from it is, and that nothing but the source turns. -/
section
namespace Go.Proofs.YtkdfdbcpbgganaaGreatDoor
open Go.RowKit Go.BigFrame

/-- a code: bytes of the call -/
structure Code where
  A : Option Addr
  n : Nat
  c : Nat
  bs : List Int
structure Code.Ok (K : Code) : Prop where
  len : K.bs.length = K.n
  small : K.n ≤ 4096
  byte : ∀ x ∈ K.bs, 0 ≤ x ∧ x ≤ 255
def byteRows (bs : List Int) : List (List Value) := bs.map fun x => [Value.int .u8 x]
theorem byteRows_get {bs : List Int} {k : Nat} {x : Int} (h : bs[k]? = some x) : (byteRows bs)[k]? = some [Value.int .u8 x] := by simp [byteRows, h]
theorem Rd.byte_at {w : World} {B : Nat} {A : Option Addr} {bs : List Int} (h : Rd w B A 1 (byteRows bs)) {k : Nat} {x : Int} (hx : bs[k]? = some x) :
    ∃ ad, A = some ad ∧ ad.block < B ∧ w.cell? (ad.add k) = some (.int .u8 x) := by
  obtain ⟨ad, e, hb, _, hc⟩ := h.at_ (byteRows_get hx)
  exact ⟨ad, e, hb, by simpa using hc 0 _ rfl⟩
/-- block g is a source over a code -/
structure Src (K : Code) (g : Nat) (w : World) : Prop where
  rd : Rd w g K.A 1 (byteRows K.bs)
  blk : ∃ p s : Int, Blk w g 93 #[.slice K.A K.n K.c, .int .i64 p, .int .i64 s] ∧ (0 ≤ p ∧ p ≤ (K.n : Int)) ∧ 0 ≤ s ∧ s ≤ 2147483646
theorem Src.lt {K : Code} {g : Nat} {w : World} (h : Src K g w) : g < w.heap.size := by
  obtain ⟨p, s, hb, _⟩ := h.blk; exact hb.lt
/-- numbers have been drawn, and memory made: all else is as it was -/
structure Nx (K : Code) (g : Nat) (w w' : World) : Prop where
  below : Below g w w'
  others : ∀ h, h < w.heap.size → h ≠ g → w'.heap[h]? = w.heap[h]?
  src : Src K g w'
section
variable {K : Code} {g : Nat} {w w1 w2 w' : World}
theorem Nx.refl (h : Src K g w) : Nx K g w w := ⟨Below.refl _ _, fun _ _ _ => rfl, h⟩
theorem Nx.trans (h : Nx K g w w1) (h' : Nx K g w1 w2) : Nx K g w w2 :=
  ⟨h.below.trans h'.below, fun k hk hne => (h'.others k (Nat.lt_of_lt_of_le hk h.below.size) hne).trans (h.others k hk hne), h'.src⟩
theorem Src.past (h : Src K g w) (hb : Below w.heap.size w w') : Src K g w' := by
  obtain ⟨p, s, hk, hp, hs⟩ := h.blk
  exact ⟨h.rd.below (hb.mono (Nat.le_of_lt h.lt)), p, s, hk.below' hb, hp, hs⟩
/-- a call that leaves all that was there -/
theorem Nx.past (h : Nx K g w w1) (hb : Below w1.heap.size w1 w2) : Nx K g w w2 :=
  ⟨h.below.trans (hb.mono (Nat.le_of_lt h.src.lt)), fun k hk hne => (hb.block k (Nat.lt_of_lt_of_le hk h.below.size)).trans (h.others k hk hne), h.src.past hb⟩
theorem Nx.alloc (h : Nx K g w w1) (o : Obj) : Nx K g w (w1.alloc o) := h.past ((Below.refl _ _).alloc (Nat.le_refl _) _)
theorem Nx.drew (h : Nx K g w w1) : Nx K g w w1.drew := h.past (Below.refl _ _).drew
theorem Nx.size (h : Nx K g w w1) : w.heap.size ≤ w1.heap.size := h.below.size
/-- a block that is not older than the beginning, and not the source, may turn -/
theorem Nx.kept (h : Nx K g w w1) (hlt : g < w.heap.size) {B : Nat} (hB : w.heap.size ≤ B) (hb : Below B w1 w2) : Nx K g w w2 := by
  refine ⟨h.below.trans (hb.mono (by omega)), fun k hk hne => (hb.block k (by omega)).trans (h.others k hk hne), ?_⟩
  obtain ⟨p, s, hk, hp, hs⟩ := h.src.blk
  exact ⟨h.src.rd.below (hb.mono (by omega)), p, s, hk.below hb (by omega), hp, hs⟩
theorem Blk.nx {x : Nat} {t : TypeId} {cs : Array Value} (h : Blk w x t cs) (hN : Nx K g w w') (hne : x ≠ g) : Blk w' x t cs := (hN.others x h.lt hne).trans h
theorem Res.nx {B sz n cap : Nat} {t : TypeId} {A : Option Addr} {rows : List (List Value)} (h : Res B w t sz A n cap rows) (hN : Nx K g w w') (hB : g < B) : Res B w' t sz A n cap rows :=
  h.keep fun x hx => hN.others x (h.lt hx).2 (by have := (h.lt hx).1; omega)
theorem Rd.nx {B sz : Nat} {A : Option Addr} {rows : List (List Value)} (h : Rd w B A sz rows) (hN : Nx K g w w') (hB : B ≤ g) : Rd w' B A sz rows := h.below (hN.below.mono hB)
/-- what a whole draw has left: all that was there before the source -/
theorem Nx.out (h : Nx K g w w1) {B : Nat} (hB : B ≤ g) : Below B w w1 := h.below.mono hB
end

theorem nx_step {K : Code} {g : Nat} {w0 w w' : World} {p v : Int} (h : Nx K g w0 w) (hr : Rd w' g K.A 1 (byteRows K.bs)) (hk : Blk w' g 93 #[.slice K.A K.n K.c, .int .i64 p, .int .i64 v]) (hp : 0 ≤ p ∧ p ≤ (K.n : Int)) (hv : 0 ≤ v ∧ v ≤ 2147483646)
    (ho : ∀ k, k < w.heap.size → k ≠ g → w'.heap[k]? = w.heap[k]?) (hz : w'.os = w.os ∧ w'.tape = w.tape ∧ w'.output = w.output ∧ w.heap.size ≤ w'.heap.size) : Nx K g w0 w' := by
  have hlt := h.src.lt
  refine ⟨h.below.trans ⟨hz.1, hz.2.1, hz.2.2.1, hz.2.2.2, fun k hk' => ho k (by omega) (by omega)⟩, fun k hk' hne => (ho k (Nat.lt_of_lt_of_le hk' h.size) hne).trans (h.others k hk' hne), hr, p, v, hk, hp, hv⟩

set_option maxHeartbeats 2000000 in
theorem spec_l01Next_any (K : Code) (hK : K.Ok) (g : Nat) (w0 : World) (n : Int) (w : World) (hT : Nx K g w0 w) :
    Calls Tryz.prog 32 #[.pointer (some ⟨g, 0, none⟩), .int .i64 n] w fun e w' => ∃ x : Int, e = .returned (.int .i64 x) ∧ (0 ≤ x ∧ x ≤ max 0 (n - 1)) ∧ Nx K g w0 w' := by
  obtain ⟨p, s, hk, ⟨p0, p1⟩, s0, s1⟩ := hT.src.blk
  have HRD := Lib.hid hT.src.rd
  have HT := Lib.hid hT; clear hT
  have HK := Lib.hid hK; clear hK
  have hsm := HK.out.small
  by_cases hn : n ≤ 1
  · go_enter Tryz.func32, Tryz.ntmps32
    go_wp2
    go_ret
    exact ⟨0, rfl, by omega, HT.out⟩
  have hn0 : 0 < n := by omega
  have c0 : w.cell? ⟨g, 0, none⟩ = some (.slice K.A K.n K.c) := hk.cell 0
  have c1 : w.cell? ⟨g, 1, none⟩ = some (.int .i64 p) := hk.cell 1
  have c2 : w.cell? ⟨g, 2, none⟩ = some (.int .i64 s) := hk.cell 2
  have z2 : w.frozen? ⟨g, 2, none⟩ = false := hk.frozen 2
  obtain ⟨v, hv⟩ : ∃ v, (s * 48271 + 71) % 2147483647 = v := ⟨_, rfl⟩
  have hm : 0 ≤ s * 48271 + 71 ∧ s * 48271 + 71 ≤ 200000000000000 := by omega
  have hv0 : 0 ≤ v ∧ v ≤ 2147483646 := by omega
  have HV := Lib.hid hv
  have hk1 := hk.set_ 2 (.int .i64 v)
  have hg1 : g < w.heap.size := hk.lt
  -- the seed has turned
  have HW := Lib.hid (show ∀ w', Below w.heap.size (w.setCell ⟨g, 2, none⟩ (.int .i64 v)) w' → Blk w' g 93 #[.slice K.A K.n K.c, .int .i64 p, .int .i64 v] ∧ Rd w' g K.A 1 (byteRows K.bs) ∧ Nx K g w0 w' from fun w' hb => by
    have hkz : Blk w' g 93 #[.slice K.A K.n K.c, .int .i64 p, .int .i64 v] := Blk.below (by simpa using hk1) hb hg1
    have hrz : Rd w' g K.A 1 (byteRows K.bs) := (HRD.out.setCell (p := ⟨g, 2, none⟩) (Nat.le_refl _) _).below (hb.mono (Nat.le_of_lt hg1))
    exact ⟨hkz, hrz, nx_step HT.out hrz hkz ⟨p0, p1⟩ hv0 (fun k hk' hne => (hb.block k hk').trans (Below.heap_setCell _ _ _ k hne)) ⟨hb.os, hb.tape, hb.output, Nat.le_trans (Nat.le_of_eq (by simp)) hb.size⟩⟩)
  clear hk hk1
  go_enter Tryz.func32, Tryz.ntmps32
  go_wp2
  have hsz : (w.setCell ⟨g, 2, none⟩ (.int .i64 v)).heap.size = w.heap.size := by simp
  generalize w.setCell ⟨g, 2, none⟩ (.int .i64 v) = W1 at HW hsz ⊢
  rw [← hsz] at HW
  clear hv HV c0 c1 c2 z2
  obtain ⟨v0, v1⟩ := hv0
  have hq : 0 ≤ v / 41 ∧ v / 41 ≤ 2147483646 := by omega
  obtain ⟨q0, q1⟩ := hq
  obtain ⟨k1, r1, _⟩ := HW.out W1 (Below.refl _ _)
  have d0 := fun y : Past W1 => Past.cell (p := ⟨g, 0, none⟩) (k1.cell 0) y
  have d1 := fun y : Past W1 => Past.cell (p := ⟨g, 1, none⟩) (k1.cell 1) y
  have d2 : W1.cell? ⟨g, 2, none⟩ = some (.int .i64 v) := k1.cell 2
  obtain ⟨A, N, C, bs⟩ := K
  simp only at hsm p1 d0 d1 k1 r1
  by_cases hpn : p < (N : Int)
  rotate_left
  · clear k1 r1
    go_wp2
    refine wp_region_past (by kernel_rfl) (by kernel_rfl) ?_
    repeat (go_big_quiet_step (fail))
    refine wpQuiet_nil ?_
    rintro _ ⟨y, rfl⟩
    go_wp2
    go_ret
    exact ⟨_, rfl, ⟨Int.emod_nonneg _ (by omega), by have := Int.emod_lt_of_pos (v / 41) hn0; omega⟩, (HW.out y.1 y.2).2.2⟩
  obtain ⟨q, rfl⟩ := Int.eq_ofNat_of_zero_le p0
  obtain ⟨x, hx⟩ := get_of_lt (xs := bs) (k := q) (by have := HK.out.len; simp only at this; omega)
  have hxb := HK.out.byte x (List.mem_of_getElem? hx)
  obtain ⟨x0, x1⟩ := hxb
  obtain ⟨ad, rfl, had, hc⟩ := r1.byte_at hx
  clear hx k1 r1
  have d3 := fun y : Past W1 => Past.cell hc y
  clear hc
  go_wp2
  refine wp_region_past (by kernel_rfl) (by kernel_rfl) ?_
  repeat (go_big_quiet_step (fail))
  refine wpQuiet_nil ?_
  rintro _ ⟨y, rfl⟩
  have D0 := fun z : Past y.1 => Past.cell (d0 y) z
  have D1 := fun z : Past y.1 => Past.cell (d1 y) z
  have D3 := fun z : Past y.1 => Past.cell (d3 y) z
  go_wp2
  refine wp_region_past (by kernel_rfl) (by kernel_rfl) ?_
  repeat (go_big_quiet_step (fail))
  refine wpQuiet_nil ?_
  rintro _ ⟨z, rfl⟩
  have hbz : Below W1.heap.size W1 z.1 := below_step y.2 z.2
  obtain ⟨k2, r2, N2⟩ := HW.out z.1 hbz
  try dsimp only at k2 r2
  have hc2 := D3 z
  obtain ⟨Z, hZ⟩ : ∃ Z, Z = z.1 := ⟨_, rfl⟩
  rw [← hZ] at k2 r2 N2 hc2 ⊢
  clear d0 d1 d2 d3 D0 D1 D3 hbz hZ z y HW
  have c0 : Z.cell? ⟨g, 0, none⟩ = some (.slice (some ad) N C) := k2.cell 0
  have c1 : Z.cell? ⟨g, 1, none⟩ = some (.int .i64 (q : Int)) := k2.cell 1
  have z1 : Z.frozen? ⟨g, 1, none⟩ = false := k2.frozen 1
  have k3 := k2.set_ 1 (.int .i64 ((q : Int) + 1))
  have hgZ : g < Z.heap.size := k2.lt
  have HS := Lib.hid (show ∀ w', Below Z.heap.size (Z.setCell ⟨g, 1, none⟩ (.int .i64 ((q : Int) + 1))) w' → Blk w' g 93 #[.slice (some ad) N C, .int .i64 ((q : Int) + 1), .int .i64 v] ∧ Nx ⟨some ad, N, C, bs⟩ g w0 w' ∧ w'.cell? (ad.add q) = some (.int .u8 x) from fun w' hb => by
    have hkz : Blk w' g 93 #[.slice (some ad) N C, .int .i64 ((q : Int) + 1), .int .i64 v] := Blk.below (by simpa using k3) hb hgZ
    have hrz := ((r2.setCell (p := ⟨g, 1, none⟩) (Nat.le_refl _) (.int .i64 ((q : Int) + 1))).below (hb.mono (Nat.le_of_lt hgZ)))
    refine ⟨hkz, nx_step N2 hrz hkz (by simp only; omega) ⟨v0, v1⟩ (fun k hk' hne => (hb.block k hk').trans (Below.heap_setCell _ _ _ k hne)) ⟨hb.os, hb.tape, hb.output, Nat.le_trans (Nat.le_of_eq (by simp)) hb.size⟩, ?_⟩
    rw [hb.cell (by rw [block_of_add]; omega), World.cell?_setCell_other _ _ _ _ (fun e => by have := congrArg Addr.block e; rw [block_of_add] at this; simp at this; omega)]
    exact hc2)
  clear k2 r2 N2 k3
  by_cases hn2 : n ≤ 256
  rotate_left
  · go_wp2
    go_ret
    exact ⟨_, rfl, ⟨Int.emod_nonneg _ (by omega), by have := Int.emod_lt_of_pos (v / 41 + x) hn0; omega⟩, (HS.out _ (Below.refl _ _)).2.1⟩
  rcases (show ((q : Int) + 1) % 2 = 0 ∨ ((q : Int) + 1) % 2 = 1 by omega) with hpar | hpar
  rotate_left
  · have hb2 : (((q : Int) + 1) % 2 == 0) = false := by rw [hpar]; rfl
    have hb3 : (((q : Int) + 1).tmod 2 == 0) = false := by rw [Int.tmod_eq_emod_of_nonneg (by omega)]; exact hb2
    go_wp2
    go_ret
    exact ⟨_, rfl, ⟨Int.emod_nonneg _ (by omega), by have := Int.emod_lt_of_pos (v / 41 + x) hn0; omega⟩, (HS.out _ (Below.refl _ _)).2.1⟩
  have hb2 : (((q : Int) + 1) % 2 == 0) = true := by rw [hpar]; rfl
  have hb3 : (((q : Int) + 1).tmod 2 == 0) = true := by rw [Int.tmod_eq_emod_of_nonneg (by omega)]; exact hb2
  have hsz2 : (Z.setCell ⟨g, 1, none⟩ (.int .i64 ((q : Int) + 1))).heap.size = Z.heap.size := by simp
  go_wp2
  generalize Z.setCell ⟨g, 1, none⟩ (.int .i64 ((q : Int) + 1)) = W3 at HS hsz2 ⊢
  rw [← hsz2] at HS
  obtain ⟨k3, _, hc3⟩ := HS.out W3 (Below.refl _ _)
  have d0 := fun y : Past W3 => Past.cell (p := ⟨g, 0, none⟩) (k3.cell 0) y
  have d1 := fun y : Past W3 => Past.cell (p := ⟨g, 1, none⟩) (k3.cell 1) y
  have d3 := fun y : Past W3 => Past.cell hc3 y
  have hw1 : IntKind.i64.wrap ((q : Int) + 1 - 1) = (q : Int) := by rw [IntWalk.i64_in _ (by omega)]; omega
  clear hc2 c0 c1 z1 hpar hb2 hb3 k3 hc3
  refine wp_region_past (by kernel_rfl) (by kernel_rfl) ?_
  repeat (go_big_quiet_step (fail))
  refine wpQuiet_nil ?_
  rintro _ ⟨y, rfl⟩
  go_wp2
  go_ret
  exact ⟨_, rfl, ⟨Int.emod_nonneg _ (by omega), by have := Int.emod_lt_of_pos x hn0; omega⟩, (HS.out y.1 y.2).2.1⟩

/-- a number of a list -/
def OneOf : List Value → Int → Prop
  | [], _ => False
  | v :: rest, x => v = .int .i64 x ∨ OneOf rest x
def isI64 : Value → Bool
  | .int .i64 _ => true
  | _ => false
theorem oneOf_mem : ∀ {cs : List Value} {v : Value}, cs.all isI64 = true → v ∈ cs → ∃ x : Int, v = .int .i64 x ∧ OneOf cs x
  | [], v, _, h => by cases h
  | c :: rest, v, ha, h => by
    simp only [List.all_cons, Bool.and_eq_true] at ha
    rcases List.mem_cons.1 h with rfl | h
    · match v, ha.1 with
      | .int .i64 x, _ => exact ⟨x, rfl, .inl rfl⟩
    · obtain ⟨x, e, ho⟩ := oneOf_mem ha.2 h
      exact ⟨x, e, .inr ho⟩
theorem spec_l01Pick_any (K : Code) (hK : K.Ok) (g : Nat) (w0 : World) (h : Nat) (cs : List Value) (m : Nat) (w : World) (hT : Nx K g w0 w) (hB : Blk w h 2 cs.toArray) (hne : g < h) (hm : cs.length = m) (hm0 : 0 < m) (hm1 : m ≤ 100) (hi : cs.all isI64 = true) :
    Calls Tryz.prog 33 #[.pointer (some ⟨g, 0, none⟩), .slice (some ⟨h, 0, none⟩) m m] w fun e w' => ∃ x : Int, e = .returned (.int .i64 x) ∧ OneOf cs x ∧ Nx K g w0 w' := by
  have HB := Lib.hid hB; clear hB
  have HT := Lib.hid hT; clear hT
  have HI := Lib.hid hi; clear hi
  go_enter Tryz.func33, Tryz.ntmps33
  go_wp2_with fail
  refine (spec_l01Next_any K hK g w (m : Int) w (Nx.refl HT.out.src)).mono ?_
  rintro e w1 ⟨x, rfl, ⟨x0, x1⟩, hN⟩
  obtain ⟨q, rfl⟩ := Int.eq_ofNat_of_zero_le x0
  have hq : q < m := by omega
  have HB1 := HB.out.nx hN (by omega)
  obtain ⟨v, hv⟩ := get_of_lt (xs := cs) (k := q) (by omega)
  have hc : w1.cell? ⟨h, q, none⟩ = some v := by rw [HB1.cell]; simpa using hv
  obtain ⟨y, rfl, ho⟩ := oneOf_mem HI.out (List.mem_of_getElem? hv)
  have HN := Lib.hid (HT.out.trans hN)
  have HO := Lib.hid ho
  clear hN HB1 hv ho
  go_wp2
  go_ret
  exact ⟨_, rfl, HO.out, HN.out⟩

set_option maxHeartbeats 2000000 in
theorem spec_l01From_any (K : Code) (hK : K.Ok) (w : World) (hX : Rd w w.heap.size K.A 1 (byteRows K.bs)) :
    Calls Tryz.prog 28 #[.slice K.A K.n K.c] w fun e w' => ∃ g : Nat, e = .returned (.pointer (some ⟨g, 0, none⟩)) ∧ w.heap.size ≤ g ∧ Below w.heap.size w w' ∧ Src K g w' := by
  obtain ⟨A, N, C, bs⟩ := K
  have hlen := hK.len
  have hsm := hK.small
  have HBY := Lib.hid hK.byte
  simp only at hlen hsm HBY hX
  have HX := Lib.hid hX; clear hX
  have HK := Lib.hid hK; clear hK
  have HL := Lib.hid hlen; clear hlen
  obtain ⟨G, hG⟩ : ∃ G, w.heap.size = G := ⟨_, rfl⟩
  have hbw : Below w.heap.size w (w.alloc (.cells #[.slice A N C, .int .i64 0, .int .i64 25001] 93)) := (Below.refl _ w).alloc (Nat.le_refl _) _
  have HB := Lib.hid (Blk.new w 93 #[.slice A N C, .int .i64 0, .int .i64 25001])
  have HBW := Lib.hid hbw; clear hbw
  have HGZ := Lib.hid hG
  rw [hG] at HX HB
  go_enter Tryz.func28, Tryz.ntmps28
  go_wp2
  clear hG
  go_loopw [4] (fun i wr => ∃ (k : Nat) (s : Int), k ≤ N ∧ i = .int .i64 k ∧ Blk wr G 93 #[.slice A N C, .int .i64 0, .int .i64 s] ∧ (0 ≤ s ∧ s ≤ 2147483646) ∧ Hid (Below w.heap.size w wr)) (fun i _ => N - (intOf i).toNat)
  case atStart => exact ⟨0, 25001, by omega, rfl, HB.out, by omega, HBW⟩
  case round =>
    obtain ⟨k, s, hk, rfl, hB, ⟨s0, s1⟩, HBr⟩ := hrel
    have hR : Rd wr G A 1 (byteRows bs) := by rw [← HGZ.out] at HX ⊢; exact HX.out.below HBr.out
    have HRr := Lib.hid hR
    by_cases hlt : k < N ∧ k < 64
    · obtain ⟨hkN, hk64⟩ := hlt
      obtain ⟨x, hx⟩ := get_of_lt (xs := bs) (k := k) (by rw [HL.out]; exact hkN)
      obtain ⟨x0, x1⟩ := HBY.out x (List.mem_of_getElem? hx)
      obtain ⟨ad, rfl, had, hc⟩ := hR.byte_at hx
      clear hx hR
      have hki : (k : Int) < (N : Int) := by omega
      have hki2 : (k : Int) < 64 := by omega
      have d0 := fun y : Past wr => Past.cell (p := ⟨G, 2, none⟩) (hB.cell 2) y
      have d1 := fun y : Past wr => Past.cell hc y
      have hv : 0 ≤ (s * 71 + x) % 2147483647 ∧ (s * 71 + x) % 2147483647 ≤ 2147483646 := by omega
      have hm : 0 ≤ s * 71 + x ∧ s * 71 + x ≤ 200000000000000 := by omega
      have HBB := Lib.hid hB; clear hB hc
      go_wp2
      refine wp_region_past_tail 15 (by kernel_rfl) (by kernel_rfl) ?_
      simp only [List.take_succ_cons, List.take_zero, List.drop_succ_cons, List.drop_zero]
      repeat (go_big_quiet_step (fail))
      refine wpQuiet_nil ?_
      rintro _ ⟨y, rfl⟩
      clear d0 d1
      have hby : Below w.heap.size w y.1 := HBr.out.trans (y.2.mono HBr.out.size)
      have HBy := Lib.hid (HBB.out.below' y.2)
      have HBYy := Lib.hid hby; clear hby
      have c2 : y.1.cell? ⟨G, 2, none⟩ = some (.int .i64 s) := HBy.out.cell 2
      have z2 : y.1.frozen? ⟨G, 2, none⟩ = false := HBy.out.frozen 2
      have hGw : w.heap.size ≤ G := by rw [HGZ.out]; exact Nat.le_refl _
      go_wp2
      go_roundw
      case rel => exact ⟨k + 1, (s * 71 + x) % 2147483647, by omega, by go_num, by simpa using HBy.out.set_ 2 (.int .i64 ((s * 71 + x) % 2147483647)), hv, Lib.hid (HBYy.out.setCell (by show w.heap.size ≤ G; exact hGw) _)⟩
      case measure => simp [intOf]; omega
    · have HN := Lib.hid hlt
      have hfin : Src ⟨A, N, C, bs⟩ G wr := ⟨hR, 0, s, hB, by simp, s0, s1⟩
      have HFin := Lib.hid hfin; clear hfin hR hB
      have hGw : w.heap.size ≤ G := by rw [HGZ.out]; exact Nat.le_refl _
      by_cases hkN : k < N
      · have hki : (k : Int) < (N : Int) := by omega
        have hk64 : ¬ (k : Int) < 64 := by have := HN.out; omega
        clear hlt
        go_wp2
        go_ret
        exact ⟨G, rfl, hGw, HBr.out, HFin.out⟩
      · have hki : ¬ (k : Int) < (N : Int) := by omega
        clear hlt
        go_wp2
        go_ret
        exact ⟨G, rfl, hGw, HBr.out, HFin.out⟩
end Go.Proofs.YtkdfdbcpbgganaaGreatDoor
end

/- Contracts of the small functions on numbers: ranges, divisions rounded down and up. Each holds for every argument in the stated range. -/
section
namespace Go.Proofs.YtkdfdbcpbgganaaGreatDoor
open Go.RowKit Go.BigFrame

/-- n lies from lo to hi -/
def inR (n lo hi : Int) : Bool := decide (lo ≤ n) && decide (n ≤ hi)
theorem inR_true {n lo hi : Int} : inR n lo hi = true ↔ lo ≤ n ∧ n ≤ hi := by simp [inR]
theorem inR_false {n lo hi : Int} : inR n lo hi = false ↔ n < lo ∨ hi < n := by simp only [inR, Bool.and_eq_false_iff, decide_eq_false_iff_not]; omega
theorem inR_mk {n lo hi : Int} (h : lo ≤ n ∧ n ≤ hi) : inR n lo hi = true := inR_true.2 h
/-- a / b rounded up -/
def ceilDiv (a b : Int) : Int := -((-a) / b)

theorem impl_inRange_any (n lo hi : Int) (w : World) :
    Calls Tryz.prog 50 #[.int .i64 n, .int .i64 lo, .int .i64 hi] w fun e w' => e = .returned (.bool (inR n lo hi)) ∧ w = w' := by
  by_cases h : lo ≤ n
  · have e : inR n lo hi = decide (n ≤ hi) := by simp [inR, h]
    rw [e]
    go_enter Tryz.func50, Tryz.ntmps50
    go_wp2
    go_ret
    exact ⟨rfl, rfl⟩
  · have e : inR n lo hi = false := inR_false.2 (.inl (by omega))
    rw [e]
    go_enter Tryz.func50, Tryz.ntmps50
    go_wp2
    go_ret
    exact ⟨rfl, rfl⟩

theorem spec_l01In_any (n lo hi : Int) (w : World) :
    Calls Tryz.prog 72 #[.int .i64 n, .int .i64 lo, .int .i64 hi] w fun e w' => e = .returned (.bool (inR n lo hi)) ∧ w = w' := by
  by_cases h : lo ≤ n
  · have e : inR n lo hi = decide (n ≤ hi) := by simp [inR, h]
    rw [e]
    go_enter Tryz.func72, Tryz.ntmps72
    go_wp2
    go_ret
    exact ⟨rfl, rfl⟩
  · have e : inR n lo hi = false := inR_false.2 (.inl (by omega))
    rw [e]
    go_enter Tryz.func72, Tryz.ntmps72
    go_wp2
    go_ret
    exact ⟨rfl, rfl⟩






theorem impl_isRate_any (n : Int) (w : World) :
    Calls Tryz.prog 68 #[.int .i64 n] w fun e w' => e = .returned (.bool (inR n (0) (200))) ∧ w = w' := by
  go_enter Tryz.func68, Tryz.ntmps68
  go_wp2_with fail
  refine (impl_inRange_any _ _ _ _).mono ?_
  rintro e w' ⟨rfl, rfl⟩
  go_wp2
  go_ret
  exact ⟨rfl, rfl⟩

theorem spec_l04Rate_any (n : Int) (w : World) :
    Calls Tryz.prog 117 #[.int .i64 n] w fun e w' => e = .returned (.bool (inR n (0) (200))) ∧ w = w' := by
  go_enter Tryz.func117, Tryz.ntmps117
  go_wp2_with fail
  refine (spec_l01In_any _ _ _ _).mono ?_
  rintro e w' ⟨rfl, rfl⟩
  go_wp2
  go_ret
  exact ⟨rfl, rfl⟩

theorem impl_isYears_any (n : Int) (w : World) :
    Calls Tryz.prog 118 #[.int .i64 n] w fun e w' => e = .returned (.bool (inR n (0) (120))) ∧ w = w' := by
  go_enter Tryz.func118, Tryz.ntmps118
  go_wp2_with fail
  refine (impl_inRange_any _ _ _ _).mono ?_
  rintro e w' ⟨rfl, rfl⟩
  go_wp2
  go_ret
  exact ⟨rfl, rfl⟩





theorem spec_l07Sum_any (n : Int) (w : World) :
    Calls Tryz.prog 57 #[.int .i64 n] w fun e w' => e = .returned (.bool (inR n (1) (100000000))) ∧ w = w' := by
  go_enter Tryz.func57, Tryz.ntmps57
  go_wp2_with fail
  refine (spec_l01In_any _ _ _ _).mono ?_
  rintro e w' ⟨rfl, rfl⟩
  go_wp2
  go_ret
  exact ⟨rfl, rfl⟩



theorem tdiv_bounds {a b : Int} (hb : 1 ≤ b) (ha : -4000000000000000000 ≤ a) (ha' : a ≤ 4000000000000000000) : -4000000000000000000 ≤ a.tdiv b ∧ a.tdiv b ≤ 4000000000000000000 := by
  rcases Int.le_total 0 a with h | h
  · rw [Int.tdiv_eq_ediv_of_nonneg h]
    exact ⟨by have := Int.ediv_nonneg h (by omega : 0 ≤ b); omega, by have := Int.ediv_le_self b h; omega⟩
  · obtain ⟨c, rfl⟩ : ∃ c, a = -c := ⟨-a, by omega⟩
    rw [Int.neg_tdiv, Int.tdiv_eq_ediv_of_nonneg (by omega)]
    have h1 := Int.ediv_nonneg (by omega : 0 ≤ c) (by omega : 0 ≤ b)
    have h2 := Int.ediv_le_self b (by omega : 0 ≤ c)
    omega
theorem down_neg {a b : Int} (hb : 1 ≤ b) (h : a.tmod b < 0) : a / b = a.tdiv b - 1 := by
  have e1 := Int.tdiv_mul_add_tmod a b |>.symm
  have e2 := Int.mul_ediv_add_emod a b |>.symm
  have h1 := Int.emod_nonneg a (by omega : b ≠ 0)
  have h2 := Int.emod_lt_of_pos a (by omega : 0 < b)
  have h3 : -b < a.tmod b := by
    rcases Int.le_total 0 a with h0 | h0
    · have := Int.tmod_nonneg b h0; omega
    · obtain ⟨c, rfl⟩ : ∃ c, a = -c := ⟨-a, by omega⟩
      rw [Int.neg_tmod]
      have := Int.tmod_lt_of_pos c (by omega : 0 < b)
      omega
  have h4 : b * (a / b) < b * (a.tdiv b - 1 + 1) := by rw [Int.mul_comm b (a.tdiv b - 1 + 1), show a.tdiv b - 1 + 1 = a.tdiv b by omega]; omega
  have h5 : b * (a.tdiv b - 1) < b * (a / b + 1) := by
    rw [Int.mul_sub, Int.mul_add, Int.mul_comm b (a.tdiv b)]; omega
  have h6 := Int.lt_of_mul_lt_mul_left h4 (by omega)
  have h7 := Int.lt_of_mul_lt_mul_left h5 (by omega)
  omega
theorem down_pos {a b : Int} (hb : 1 ≤ b) (h : ¬ a.tmod b < 0) : a / b = a.tdiv b := by
  have e1 := Int.tdiv_mul_add_tmod a b |>.symm
  have e2 := Int.mul_ediv_add_emod a b |>.symm
  have h1 := Int.emod_nonneg a (by omega : b ≠ 0)
  have h2 := Int.emod_lt_of_pos a (by omega : 0 < b)
  have h3 : a.tmod b < b := Int.tmod_lt_of_pos a (by omega : 0 < b)
  have h4 : b * (a / b) < b * (a.tdiv b + 1) := by rw [Int.mul_add, Int.mul_comm b (a.tdiv b)]; omega
  have h5 : b * (a.tdiv b) < b * (a / b + 1) := by
    rw [Int.mul_add, Int.mul_comm b (a.tdiv b)]; omega
  have h6 := Int.lt_of_mul_lt_mul_left h4 (by omega)
  have h7 := Int.lt_of_mul_lt_mul_left h5 (by omega)
  omega

theorem impl_down_any (a b : Int) (w : World) (hb : 1 ≤ b) (hb' : b ≤ 4000000000000000000) (ha : -4000000000000000000 ≤ a) (ha' : a ≤ 4000000000000000000) :
    Calls Tryz.prog 120 #[.int .i64 a, .int .i64 b] w fun e w' => e = .returned (.int .i64 (a / b)) ∧ w = w' := by
  by_cases h : a.tmod b < 0
  · have e : a / b = a.tdiv b - 1 := down_neg hb h
    rw [e]
    have hq := tdiv_bounds hb ha ha'
    obtain ⟨hq1, hq2⟩ := hq
    have hbz : ¬ b = 0 := by omega
    go_enter Tryz.func120, Tryz.ntmps120
    go_wp2
    go_ret
    exact ⟨rfl, rfl⟩
  · have e : a / b = a.tdiv b := down_pos hb h
    rw [e]
    have hq := tdiv_bounds hb ha ha'
    obtain ⟨hq1, hq2⟩ := hq
    have hbz : ¬ b = 0 := by omega
    go_enter Tryz.func120, Tryz.ntmps120
    go_wp2
    go_ret
    exact ⟨rfl, rfl⟩

theorem spec_l01Down_any (a b : Int) (w : World) (hb : 1 ≤ b) (hb' : b ≤ 4000000000000000000) (ha : -4000000000000000000 ≤ a) (ha' : a ≤ 4000000000000000000) :
    Calls Tryz.prog 122 #[.int .i64 a, .int .i64 b] w fun e w' => e = .returned (.int .i64 (a / b)) ∧ w = w' := by
  by_cases h : a.tmod b < 0
  · have e : a / b = a.tdiv b - 1 := down_neg hb h
    rw [e]
    have hq := tdiv_bounds hb ha ha'
    obtain ⟨hq1, hq2⟩ := hq
    have hbz : ¬ b = 0 := by omega
    go_enter Tryz.func122, Tryz.ntmps122
    go_wp2
    go_ret
    exact ⟨rfl, rfl⟩
  · have e : a / b = a.tdiv b := down_pos hb h
    rw [e]
    have hq := tdiv_bounds hb ha ha'
    obtain ⟨hq1, hq2⟩ := hq
    have hbz : ¬ b = 0 := by omega
    go_enter Tryz.func122, Tryz.ntmps122
    go_wp2
    go_ret
    exact ⟨rfl, rfl⟩

theorem ediv_bounds {a b : Int} (hb : 1 ≤ b) (ha : -4000000000000000000 ≤ a) (ha' : a ≤ 4000000000000000000) : -4000000000000000000 ≤ a / b ∧ a / b ≤ 4000000000000000000 := by
  have e2 := Int.mul_ediv_add_emod a b |>.symm
  have h1 := Int.emod_nonneg a (by omega : b ≠ 0)
  have h2 := Int.emod_lt_of_pos a (by omega : 0 < b)
  rcases Int.le_total 0 a with h | h
  · exact ⟨by have := Int.ediv_nonneg h (by omega : 0 ≤ b); omega, by have := Int.ediv_le_self b h; omega⟩
  · have h3 : a / b ≤ 0 := by
      rcases Int.le_total (a / b) 0 with x | x
      · exact x
      · have := Int.mul_nonneg (by omega : 0 ≤ b) x; 
        rcases Int.lt_or_le 0 (a / b) with y | y
        · have := Int.mul_pos (by omega : 0 < b) y
          omega
        · exact y
    have h4 : a ≤ a / b := by
      have h5 : b * (a / b) ≤ 1 * (a / b) := Int.mul_le_mul_of_nonpos_right (by omega) h3
      have h6 : a / b ≥ a := by
        rcases Int.lt_or_le (a / b) a with y | y
        · exfalso
          have h7 : b * (a / b + 1) ≤ b * a := Int.mul_le_mul_of_nonneg_left (by omega) (by omega)
          have h8 : b * a ≤ 1 * a := Int.mul_le_mul_of_nonpos_right (by omega) h
          rw [Int.mul_add] at h7
          omega
        · exact y
      exact h6
    omega

theorem impl_up_any (a b : Int) (w : World) (hb : 1 ≤ b) (hb' : b ≤ 4000000000000000000) (ha : -4000000000000000000 ≤ a) (ha' : a ≤ 4000000000000000000) :
    Calls Tryz.prog 92 #[.int .i64 a, .int .i64 b] w fun e w' => e = .returned (.int .i64 (ceilDiv a b)) ∧ w = w' := by
  have hq := ediv_bounds hb (a := -a) (by omega) (by omega)
  obtain ⟨hq1, hq2⟩ := hq
  unfold ceilDiv
  go_enter Tryz.func92, Tryz.ntmps92
  go_wp2_with fail
  refine (impl_down_any _ _ _ hb hb' (by omega) (by omega)).mono ?_
  rintro e w' ⟨rfl, rfl⟩
  go_wp2
  go_ret
  exact ⟨rfl, rfl⟩

theorem spec_l01Up_any (a b : Int) (w : World) (hb : 1 ≤ b) (hb' : b ≤ 4000000000000000000) (ha : -4000000000000000000 ≤ a) (ha' : a ≤ 4000000000000000000) :
    Calls Tryz.prog 95 #[.int .i64 a, .int .i64 b] w fun e w' => e = .returned (.int .i64 (ceilDiv a b)) ∧ w = w' := by
  have hq := ediv_bounds hb (a := -a) (by omega) (by omega)
  obtain ⟨hq1, hq2⟩ := hq
  unfold ceilDiv
  go_enter Tryz.func95, Tryz.ntmps95
  go_wp2_with fail
  refine (spec_l01Down_any _ _ _ hb hb' (by omega) (by omega)).mono ?_
  rintro e w' ⟨rfl, rfl⟩
  go_wp2
  go_ret
  exact ⟨rfl, rfl⟩

end Go.Proofs.YtkdfdbcpbgganaaGreatDoor
end

/- How a law's arguments are opened (integers, slices of integers and of structs of integers, such structs by value, strings), and the step from 'the law returns true and leaves all that was there' to the law's row. No condition. -/
section
namespace Go.Proofs.YtkdfdbcpbgganaaGreatDoor
open Go.ChangeShapes Go.WideShapes Go.ChangeAt Go.RowKit Go.Deep

/-- a number that fits int64 -/
def In64 (z : Int) : Prop := -9223372036854775808 ≤ z ∧ z ≤ 9223372036854775807
theorem in64_of_wf {z : Int} (h : (Lit.int .i64 z).wf = true) : In64 z := by simpa [Lit.wf, IntKind.min, IntKind.max, IntKind.signed, IntKind.bits, In64] using h

section
variable {H : Type} {enc : TypeId × Value → H} {P : Program} {w : World} {base : Nat} {spare : Nat → Bool} {held : Bool}

/-- all cells of a value of this type are int64, m of them -/
def IntCells (P : Program) (t : TypeId) (m : Nat) : Prop := ∀ (H : Type) (enc : TypeId × Value → H) (w : World) (base : Nat) (spare : Nat → Bool) (held : Bool) (fuel : Nat) (cs : List Value) (x : DataW H × List MemPlace),
  DataW.trod enc P w base spare held fuel t cs = some x → cs.length = m ∧ ∀ v ∈ cs, ∃ z : Int, v = .int .i64 z ∧ In64 z
theorem intCells_int {t : TypeId} (ht : P.underlying t = some (.int .i64)) : IntCells P t 1 := by
  intro H enc w base spare held fuel cs x h
  obtain ⟨n, rfl, _, wn⟩ := DataW.trod_int ht h
  exact ⟨rfl, fun v hv => ⟨n, by simpa using hv, in64_of_wf wn⟩⟩
theorem intCells_struct {t : TypeId} {fs : Array Field} {m : Nat} (ht : P.underlying t = some (.struct fs)) (hm : P.cellsOf t = m)
    (hc : ∀ j : Nat, j < m → ∃ (i : Nat) (f : Field), fs[i]? = some f ∧ f.offset ≤ j ∧ j < f.offset + P.cellsOf f.type ∧ IntCells P f.type (P.cellsOf f.type)) : IntCells P t m := by
  intro H enc w base spare held fuel cs x h
  obtain ⟨xs, n, _, _, hl, hxl, hf⟩ := DataW.trod_struct ht h
  refine ⟨hl.trans hm, fun v hv => ?_⟩
  obtain ⟨j, hj, rfl⟩ := List.getElem_of_mem hv
  obtain ⟨i, f, hfi, h1, h2, hi⟩ := hc j (by omega)
  have hlt : i < xs.length := by rw [hxl]; exact (Array.getElem?_eq_some_iff.1 hfi).1
  have hr := hf i f hfi
  rw [List.getElem?_eq_getElem hlt] at hr
  obtain ⟨hlen, hall⟩ := hi H enc w base spare held n _ _ hr
  refine hall _ (List.mem_iff_getElem?.2 ⟨j - f.offset, ?_⟩)
  rw [List.getElem?_take, if_pos (by omega), List.getElem?_drop, show f.offset + (j - f.offset) = j by omega, List.getElem?_eq_getElem hj]
theorem intCells_flat {t ti : TypeId} {fs : Array Field} {m : Nat} (ht : P.underlying t = some (.struct fs)) (hm : P.cellsOf t = m) (hi : P.underlying ti = some (.int .i64)) (hc : P.cellsOf ti = 1)
    (hf : ∀ j : Nat, j < m → ∃ f : Field, fs[j]? = some f ∧ f.offset = j ∧ f.type = ti) : IntCells P t m :=
  intCells_struct ht hm fun j hj => by
    obtain ⟨f, h1, h2, h3⟩ := hf j hj
    exact ⟨j, f, h1, by omega, by rw [h3, hc]; omega, by rw [h3, hc]; exact intCells_int hi⟩
theorem ints_of {cs : List Value} : (∀ v ∈ cs, ∃ z : Int, v = .int .i64 z ∧ In64 z) → ∃ zs : List Int, cs = zs.map (Value.int .i64) ∧ ∀ z ∈ zs, In64 z := by
  induction cs with
  | nil => intro _; exact ⟨[], rfl, by simp⟩
  | cons v r ih =>
    intro h
    obtain ⟨z, rfl, hz⟩ := h v (by simp)
    obtain ⟨zs, rfl, hzs⟩ := ih fun u hu => h u (by simp [hu])
    exact ⟨z :: zs, rfl, fun y hy => by rcases List.mem_cons.1 hy with rfl | hy; exact hz; exact hzs y hy⟩
theorem list_of {α : Type} {p : Nat → α → Prop} : ∀ (n : Nat), (∀ i : Nat, i < n → ∃ a, p i a) → ∃ l : List α, l.length = n ∧ ∀ (i : Nat) (a : α), l[i]? = some a → p i a
  | 0, _ => ⟨[], rfl, by simp⟩
  | n + 1, h => by
    obtain ⟨l, hl, hp⟩ := list_of n fun i hi => h i (by omega)
    obtain ⟨a, ha⟩ := h n (by omega)
    refine ⟨l ++ [a], by simp [hl], fun i b hb => ?_⟩
    rw [List.getElem?_append] at hb
    split at hb
    · exact hp i b hb
    · rename_i hge
      have : i = n := by
        have := (List.getElem?_eq_some_iff.1 hb).1
        simp at this; omega
      subst this
      simp [hl] at hb
      subst hb; exact ha

/-- rows of numbers as rows of cells -/
def numRows (rows : List (List Int)) : List (List Value) := rows.map fun r => r.map (Value.int .i64)
theorem open_rows {t e : TypeId} {m fuel n cap : Nat} {A : Option Addr} {x : DataW H × List MemPlace} (ht : P.underlying t = some (.slice e)) (hC : P.cellsOf e = m) (hm : 0 < m) (hi : IntCells P e m)
    (h : DataW.trod enc P w base spare held fuel t [.slice A n cap] = some x) :
    n ≤ maxLen ∧ ∃ rows : List (List Int), rows.length = n ∧ (∀ r ∈ rows, r.length = m ∧ ∀ z ∈ r, In64 z) ∧ Rd w w.heap.size A m (numRows rows) := by
  rcases open_slice ht h with ⟨h0, _⟩ | ⟨a, len, cap', m', n', D, Pl, hcs, hb, hl, hmx, hmm, _, hel⟩
  · simp only [List.cons.injEq, Value.slice.injEq, and_true] at h0
    obtain ⟨rfl, rfl, _⟩ := h0
    exact ⟨by omega, [], rfl, by simp, .inl rfl⟩
  · simp only [List.cons.injEq, Value.slice.injEq, and_true] at hcs
    obtain ⟨rfl, rfl, rfl⟩ := hcs
    have hle : n ≤ m' := by rw [hmm]; split <;> omega
    refine ⟨by omega, ?_⟩
    have each : ∀ i : Nat, i < n → ∃ r : List Int, (r.length = m ∧ ∀ z ∈ r, In64 z) ∧ ∀ (j : Nat) (v : Value), (r.map (Value.int .i64))[j]? = some v → w.cell? (a.add (i * m + j)) = some v := by
      intro i hin
      obtain ⟨cs', hc, htr⟩ := hel i (by omega)
      obtain ⟨hlen, hall⟩ := hi H enc w base spare held n' cs' _ htr
      obtain ⟨zs, rfl, hz⟩ := ints_of hall
      obtain ⟨_, hcl, hat⟩ := World.cells?_some hc
      refine ⟨zs, ⟨by simpa using hlen, hz⟩, fun j v hv => ?_⟩
      have hj : j < P.cellsOf e := by rw [hC]; have := (List.getElem?_eq_some_iff.1 hv).1; omega
      have := hat j hj
      rw [hC, add_of_add] at this
      rw [this, hv]
    obtain ⟨rows, hrl, hr⟩ := list_of n each
    refine ⟨rows, hrl, fun r hr' => ?_, ?_⟩
    · obtain ⟨i, hi', rfl⟩ := List.getElem_of_mem hr'
      exact (hr i _ (List.getElem?_eq_getElem hi')).1
    · rcases Nat.eq_zero_or_pos n with h0 | h0
      · have : rows = [] := List.eq_nil_of_length_eq_zero (by omega)
        subst this; exact .inl rfl
      · have hblk : a.block < w.heap.size := by
          obtain ⟨r, hr0⟩ := get_of_lt (xs := rows) (k := 0) (by omega)
          obtain ⟨⟨hl0, _⟩, hc0⟩ := hr 0 r hr0
          obtain ⟨z, hz⟩ := get_of_lt (xs := r) (k := 0) (by omega)
          have := block_lt_of_cell (hc0 0 (.int .i64 z) (by simp [hz]))
          rwa [block_of_add] at this
        refine .inr ⟨a, rfl, hblk, fun k r hk => ?_⟩
        simp only [numRows, List.getElem?_map, Option.map_eq_some_iff] at hk
        obtain ⟨r0, hk, rfl⟩ := hk
        exact ⟨by simpa using (hr k r0 hk).1.1, (hr k r0 hk).2⟩

/-- a struct of integers by value -/
theorem open_aggs {r : Reach} {b0 : Nat} {t : TypeId} {fs : Array Field} {m : Nat} {v : Value} {d : DataW H} {p : List MemPlace} (hs : P.underlying t = some (.struct fs)) (hi : IntCells P t m)
    (hv : Value.okWide P w r b0 t v) (h : DataW.Trod enc P w base spare held t v d p) : ∃ zs : List Int, v = .agg (zs.map (Value.int .i64)).toArray ∧ zs.length = m ∧ ∀ z ∈ zs, In64 z := by
  obtain ⟨cs, rfl, _⟩ := okWide_struct hs hv
  obtain ⟨fuel, hf⟩ := h
  obtain ⟨hl, hall⟩ := hi H enc w base spare held fuel _ _ hf
  obtain ⟨zs, hz, hzs⟩ := ints_of hall
  simp only [Value.cells] at hz hl
  refine ⟨zs, by rw [← hz], by rw [hz] at hl; simpa using hl, hzs⟩

theorem trodAll_below {W W' : World} (hl : laidOutB P = true) (hb : Below W.heap.size W W') : ∀ {ts : List TypeId} {vs : List Value} {ds : List (DataW H)} {ps : List MemPlace}, (∀ t ∈ ts, P.readableRec t = true ∧ t < P.types.size) →
    DataW.TrodAll enc P W 0 (fun _ => true) true ts vs ds ps → (∀ x ∈ ps, x.block < W.heap.size) → DataW.TrodAll enc P W' 0 (fun b => decide (b < W.heap.size)) true ts vs ds ps
  | [], _, _, _, _, h, _ => by
    obtain ⟨rfl, rfl, rfl⟩ := trodAll_nil h
    exact trodAll_mk0
  | t :: ts, _, _, _, ht, h, hlt => by
    obtain ⟨v, vs1, d, ds1, a, b, rfl, rfl, rfl, h1, h2⟩ := trodAll_cons h
    exact trodAll_cons_mk (Below.trod hl (ht t (by simp)).1 (ht t (by simp)).2 h1 hb (fun x hx => hlt x (by simp [hx])))
      (trodAll_below hl hb (fun u hu => ht u (by simp [hu])) h2 (fun x hx => hlt x (by simp [hx])))

theorem post_true {f : Func} {s : ChangeSpec} {tb : TypeId} {W W' : World} {args : Array Value} {ds : List (DataW H)} {before : List MemPlace} (hvars : s.vars = [])
    (hW : DataW.Whole enc P f.params.toList s.vars false W args.toList ds [] before) (hres : f.resultTypes = #[tb]) (htb : P.underlying tb = some .bool)
    (hs : s.fn H ds = { results := [.lit (.bool true)], args := ds }) (hl : laidOutB P = true) (hp : ∀ t ∈ f.params.toList, P.readableRec t = true ∧ t < P.types.size) (hb : Below W.heap.size W W') :
    s.post enc P f false true false false W args (.bool true) W' := by
  have hlt := hW.lt
  obtain ⟨p, q, hA, hV, rfl, hz, hn⟩ := id hW
  have hV' := hV
  rw [hvars] at hV'
  obtain ⟨_, rfl⟩ := trodVars_none hV'
  refine ⟨ds, [], p ++ [], [], p, [], hW, ?_, ?_, ?_, hb.frame _, fun h => by cases h⟩
  · simp only [List.append_nil, hs, hres]
    exact trodAll_cons_mk (shut_bool htb _) trodAll_mk0
  · simp only [List.append_nil, hs]
    exact trodAll_below hl hb hp hA (fun x hx => hlt x (by simp [hx]))
  · rw [hvars]; simp only [List.append_nil, hs]; rfl
end

theorem own_knob : ownKnob Tryz.prog.godebug = none := by kernel_rfl
theorem laid_out : laidOutB Tryz.prog = true := by kernel_rfl

set_option maxRecDepth 100000 in
/-- THE ROW's STEP, ONCE FOR ALL: what a law asks is its witness (closed facts) and the walk. -/
theorem law_lifted {k : FuncId} {fn : Func} {s : ChangeSpec} {conds : List PathCond} (os : Os) (started : os.Started) (H : Type) (enc : TypeId × Value → H) (tb : TypeId)
    (noInit : Tryz.prog.inits.idxOf? k = none) (hfn : Tryz.prog.funcs[k]? = some fn)
    (witness : ∃ (w : World) (tape : Tape) (i : Input), w.os = os ∧ (w.forCall tape i).Shaped Tryz.prog ∧ i.vars = [] ∧ Input.okWide Tryz.prog (w.forCall tape i) .any w.heap.size k i ∧
      s.pre6 enc Tryz.prog fn conds false (w.forCall tape i).memory i.args ∧ (Assume.holds {} Tryz.prog (lone (Frame.enter Tryz.prog k i.args .normal) [] (w.forCall tape i))))
    (hvars : s.vars = []) (hres : fn.resultTypes = #[tb]) (htb : Tryz.prog.underlying tb = some .bool) (hp : ∀ t ∈ fn.params.toList, Tryz.prog.readableRec t = true ∧ t < Tryz.prog.types.size)
    (hs : ∀ ds : List (DataW H), ds.length = fn.params.size → s.fn H ds = { results := [.lit (.bool true)], args := ds })
    (walk : ∀ (W : World) (base : Nat) (args : Array Value) (ds : List (DataW H)) (p : List MemPlace), (∀ (j : Nat) t v, fn.params[j]? = some t → args[j]? = some v → Value.okWide Tryz.prog W .any base t v) →
      DataW.TrodAll enc Tryz.prog W 0 (fun _ => true) true fn.params.toList args.toList ds p → Calls Tryz.prog k args W fun e W' => e = .returned (.bool true) ∧ Below W.heap.size W W') :
    ReturnsInHanded {} Tryz.checked os k .any (s.pre6 enc Tryz.prog fn conds false) (s.post enc Tryz.prog fn false true false false) := by
  refine returnsInHanded_of_change (C := Tryz.checked) own_knob started noInit hfn witness ?_
  intro W base args ds gs before hval hW _ _
  have hW' := hW
  obtain ⟨p, q, hA, hV, rfl, _, _⟩ := hW'
  have hV' := hV
  rw [hvars] at hV'
  obtain ⟨rfl, rfl⟩ := trodVars_none hV'
  refine (walk W base args ds p hval hA).mono fun e W' ⟨he, hb⟩ => ?_
  subst he
  have hlen : ds.length = fn.params.size := by
    have : ∀ {ts : List TypeId} {vs : List Value} {ds : List (DataW H)} {ps : List MemPlace}, DataW.TrodAll enc Tryz.prog W 0 (fun _ => true) true ts vs ds ps → ds.length = ts.length := by
      intro ts
      induction ts with
      | nil => intro vs ds ps h; obtain ⟨_, rfl, _⟩ := trodAll_nil h; rfl
      | cons t ts ih => intro vs ds ps h; obtain ⟨_, _, _, _, _, _, _, rfl, _, _, h2⟩ := trodAll_cons h; simp [ih h2]
    simpa using this hA
  exact ⟨_, rfl, post_true hvars hW hres htb (hs ds hlen) laid_out hp hb⟩
end Go.Proofs.YtkdfdbcpbgganaaGreatDoor
end

/- The helper functions of the laws for []int64: a copy, a comparison, marks. Each contract holds for every argument of the stated shape. -/
section
namespace Go.Proofs.YtkdfdbcpbgganaaGreatDoor
open Go.RowKit Go.BigFrame

theorem Int64.info : (Tryz.prog.info? 2).map (fun i => (i.zero, i.size, i.bytes)) = some (some (.int .i64 0), 1, 8) := by kernel_rfl


theorem ints_of_nums : ∀ (rows : List (List Int)), (∀ r ∈ rows, r.length = 1 ∧ ∀ z ∈ r, In64 z) → ∃ xs : List Int, xs.length = rows.length ∧ intRows xs = numRows rows ∧ ∀ x ∈ xs, In64 x
  | [], _ => ⟨[], rfl, rfl, by simp⟩
  | q :: rest, h => by
    obtain ⟨xs, hl, hr, hf⟩ := ints_of_nums rest fun r hr => h r (by simp [hr])
    obtain ⟨hq, hz⟩ := h q (by simp)
    match q, hq with
    | [z0], _ =>
      refine ⟨z0 :: xs, by simp [hl], by rw [intRows, List.map_cons, numRows, List.map_cons, ← numRows, ← hr]; rfl, fun x hx => ?_⟩
      rcases List.mem_cons.1 hx with rfl | hx
      · exact hz _ (by simp)
      · exact hf x hx

theorem fillInt {cs : Array Value} {xs : List Int} {k : Nat} {x : Int} (h : Filled cs 1 (intRows xs) k) (hx : xs[k]? = some x) (hfit : k < cs.size) : Filled (cs.setIfInBounds k (.int .i64 x)) 1 (intRows xs) (k + 1) := by
  have := h.step (r := [.int .i64 x]) (intRows_get hx) rfl (intRows_all xs) (by omega)
  have e : putAt cs (k * 1) [.int .i64 x] = cs.setIfInBounds k (.int .i64 x) := by
    apply Array.ext_getElem?
    intro i
    rw [putAt_get (by simp; omega), Array.getElem?_setIfInBounds]
    simp only [Nat.mul_one, List.length_singleton]
    by_cases h1 : i < k
    · rw [if_pos h1, if_neg (by omega)]
    · by_cases h2 : i < k + 1
      · have : i = k := by omega
        subst this
        simp [hfit]
      · rw [if_neg h1, if_neg h2, if_neg (by omega)]
  rwa [e] at this




end Go.Proofs.YtkdfdbcpbgganaaGreatDoor
end

/- Draws of rates and lists of rates: whatever is drawn, it lies in a range, and nothing but the source turns. -/
section
namespace Go.Proofs.YtkdfdbcpbgganaaGreatDoor
open Go.RowKit Go.BigFrame

theorem spec_l01Pick_new (K : Code) (hK : K.Ok) (g : Nat) (w0 : World) (cs : List Value) (m : Nat) (w : World) (hT : Nx K g w0 w) (hm : cs.length = m) (hm0 : 0 < m) (hm1 : m ≤ 100) (hi : cs.all isI64 = true) :
    Calls Tryz.prog 33 #[.pointer (some ⟨g, 0, none⟩), .slice (some ⟨w.heap.size, 0, none⟩) m m] (w.alloc (.cells cs.toArray 2)) fun e w' => ∃ x : Int, e = .returned (.int .i64 x) ∧ OneOf cs x ∧ Nx K g w0 w' :=
  spec_l01Pick_any K hK g w0 w.heap.size cs m _ (hT.alloc _) (Blk.new w _ _) hT.src.lt hm hm0 hm1 hi

theorem spec_l04DrawRate_any (K : Code) (hK : K.Ok) (g : Nat) (w0 : World) (w : World) (hT : Nx K g w0 w) :
    Calls Tryz.prog 65 #[.pointer (some ⟨g, 0, none⟩)] w fun e w' => ∃ x : Int, e = .returned (.int .i64 x) ∧ (-1 ≤ x ∧ x ≤ 201) ∧ Nx K g w0 w' := by
  go_enter Tryz.func65, Tryz.ntmps65
  go_wp2_with (first | (go_at_call 32; refine (spec_l01Next_any K hK g _ _ _ (Nx.refl (Nx.src (by first | exact hT | exact hT.alloc _ | exact (hT.alloc _).alloc _ | exact hT.drew)))).mono ?_; rintro e w3 ⟨x, rfl, ⟨hx0, hx1⟩, hN⟩; have hT := Nx.trans (by first | exact hT | exact hT.alloc _ | exact (hT.alloc _).alloc _ | exact hT.drew) hN) | (go_at_call 33; refine (spec_l01Pick_new K hK g _ _ _ _ (by first | exact hT | exact hT.alloc _ | exact (hT.alloc _).alloc _ | exact hT.drew) (by rfl) (by decide) (by decide) (by rfl)).mono ?_; rintro e w3 ⟨x, rfl, hx, hT⟩; simp only [OneOf, Value.int.injEq, true_and, or_false] at hx))
  all_goals (go_ret; exact ⟨_, rfl, by omega, hT⟩)

/-- an own list of integers in a range -/
def IntsBy (B : Nat) (w : World) (A : Option Addr) (n c : Nat) (lo hi : Int) : Prop := ∃ xs : List Int, Res B w 2 1 A n c (intRows xs) ∧ ∀ x ∈ xs, lo ≤ x ∧ x ≤ hi
theorem ints_snoc {xs : List Int} {v lo hi : Int} (h : ∀ x ∈ xs, lo ≤ x ∧ x ≤ hi) (hv : lo ≤ v ∧ v ≤ hi) : ∀ x ∈ xs ++ [v], lo ≤ x ∧ x ≤ hi := by
  intro x hx
  rcases List.mem_append.1 hx with h' | h'
  · exact h x h'
  · simp only [List.mem_singleton] at h'; rw [h']; exact hv

set_option maxHeartbeats 2000000 in
theorem spec_l03DrawRates_any (K : Code) (hK : K.Ok) (g : Nat) (w0 : World) (w : World) (hT : Nx K g w0 w) :
    Calls Tryz.prog 102 #[.pointer (some ⟨g, 0, none⟩)] w fun e w' => ∃ (A' : Option Addr) (n' c' : Nat), e = .returned (.slice A' n' c') ∧ IntsBy w.heap.size w' A' n' c' 0 1000 ∧ (1 ≤ n' ∧ n' ≤ 25) ∧ Nx K g w0 w' := by
  obtain ⟨i0, hi0, hz0, hz1, hz2⟩ := info_parts Int64.info
  have HI := Lib.hid (And.intro hi0 (And.intro hz0 (And.intro hz1 hz2))); clear hi0 hz0 hz1 hz2
  have HT0 := Lib.hid hT
  have hO := Nx.refl hT.src
  have hgw := hT.src.lt
  have hgB : g < w.heap.size := hgw
  clear hT
  have hT := hO
  have HR0 := Lib.hid (Res.zero_at (w := w) (B := w.heap.size) (t := 2) (sz := 1) (g := w.heap.size) (by simp) (by simp))
  go_enter Tryz.func102, Tryz.ntmps102
  go_wp2_with fail
  have hO := hO.alloc (.cells #[] 2)
  have hT := Nx.refl hO.src
  have HR := HR0
  go_wp2_with (first | (go_at_call 32; refine (spec_l01Next_any K hK g _ _ _ (Nx.refl (Nx.src (by first | exact hT | exact hT.alloc _ | exact (hT.alloc _).alloc _ | exact hT.drew)))).mono ?_; rintro e w3 ⟨x, rfl, ⟨hx0, hx1⟩, hN⟩; have hT := Nx.trans (by first | exact hT | exact hT.alloc _ | exact (hT.alloc _).alloc _ | exact hT.drew) hN) | (go_at_call 33; refine (spec_l01Pick_new K hK g _ _ _ _ (by first | exact hT | exact hT.alloc _ | exact (hT.alloc _).alloc _ | exact hT.drew) (by rfl) (by decide) (by decide) (by rfl)).mono ?_; rintro e w3 ⟨x, rfl, hx, hT⟩; simp only [OneOf, Value.int.injEq, true_and, or_false] at hx))
  have HR := Lib.hid (HR.out.nx hT hgB)
  have hO := hO.trans hT
  clear hT hN
  go_loopw [3, 4, 5] (fun o r i wr => ∃ (k : Nat) (A' : Option Addr) (c' : Nat) (xs : List Int) (m ra : Int), i = .int .i64 m ∧ r = .int .i64 ra ∧ o = .slice A' k c' ∧ (0 ≤ m ∧ 1 ≤ (k : Int) + m ∧ (k : Int) + m ≤ 25) ∧ (0 ≤ ra ∧ ra ≤ 100 * (k : Int) + 100) ∧ Hid (Res w.heap.size wr 2 1 A' k c' (intRows xs)) ∧ Hid (∀ x ∈ xs, 0 ≤ x ∧ x ≤ 1000) ∧ Nx K g w wr) (fun _ _ i _ => (intOf i).toNat)
  case atStart => exact ⟨0, _, _, [], _, _, rfl, rfl, rfl, by omega, by omega, HR, Lib.hid (by simp), hO⟩
  case round =>
    obtain ⟨k, A', c', xs, m, ra, rfl, rfl, rfl, ⟨m0, m1, m2⟩, ⟨r0, r1⟩, HR, HX, hO⟩ := hrel
    have hT := Nx.refl hO.src
    by_cases hm : 0 < m
    · go_wp2_with (first | (go_at_call 32; refine (spec_l01Next_any K hK g _ _ _ (Nx.refl (Nx.src (by first | exact hT | exact hT.alloc _ | exact (hT.alloc _).alloc _ | exact hT.drew)))).mono ?_; rintro e w3 ⟨x, rfl, ⟨hx0, hx1⟩, hN⟩; have hT := Nx.trans (by first | exact hT | exact hT.alloc _ | exact (hT.alloc _).alloc _ | exact hT.drew) hN) | (at_builtin; refine wpList_append_row_at _ rfl _ _ _ rfl (w.heap.size) 2 i0 _ 1 8 Tryz.underlying24 HI.out.1 HI.out.2.1 HI.out.2.2.1 HI.out.2.2.2 rfl (by decide) (by decide) _ _ _ _ rfl (HR.out.nx hT hgB) [.int .i64  _] _ rfl rfl (by simp [Value.oneCell']) (by omega) (Nat.le_trans hO.size hT.size) ?_; intro A2 c2 w5 hR5 hb5 _ _; have hO := (hO.trans hT).kept hgw (Nat.le_refl _) hb5; have hT := Nx.refl hO.src; rw [← intRows_snoc] at hR5; have HR := Lib.hid hR5; clear hR5 hb5))
      all_goals go_round
      case rel => exact ⟨k + 1, _, _, _, _, _, by go_num, by go_num, rfl, by omega, by omega, Lib.hid (HR.out.nx hT hgB), Lib.hid (ints_snoc HX.out (by omega)), hO.trans hT⟩
      case measure => simp [intOf]; omega
    · go_wp2
      go_ret
      exact ⟨A', k, c', rfl, ⟨xs, HR.out, HX.out⟩, by omega, HT0.out.trans hO⟩
end Go.Proofs.YtkdfdbcpbgganaaGreatDoor
end
