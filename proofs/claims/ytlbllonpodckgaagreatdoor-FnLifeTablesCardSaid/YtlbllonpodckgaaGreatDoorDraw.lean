/- The source of the numbers that a law draws: what it is, what a number drawn from it is, and that nothing but the source turns. -/
import Derived.Test.YtlbllonpodckgaaGreatDoorBase2
import Derived.Test.YtlbllonpodckgaaGreatDoorApp2
import Derived.Test.YtlbllonpodckgaaGreatDoorTail
namespace Go.Proofs.YtlbllonpodckgaaGreatDoor
open Go.RowKit Go.BigFrame

/-- a code: bytes of the call -/
structure Code where
  A : Option Addr
  n : Nat
  c : Nat
  bs : List Int
structure Code.Ok (K : Code) : Prop where
  len : K.bs.length = K.n
  small : K.n ≤ 4096
  byte : ∀ x ∈ K.bs, 0 ≤ x ∧ x ≤ 255
def byteRows (bs : List Int) : List (List Value) := bs.map fun x => [Value.int .u8 x]
theorem byteRows_get {bs : List Int} {k : Nat} {x : Int} (h : bs[k]? = some x) : (byteRows bs)[k]? = some [Value.int .u8 x] := by simp [byteRows, h]
theorem Rd.byte_at {w : World} {B : Nat} {A : Option Addr} {bs : List Int} (h : Rd w B A 1 (byteRows bs)) {k : Nat} {x : Int} (hx : bs[k]? = some x) :
    ∃ ad, A = some ad ∧ ad.block < B ∧ w.cell? (ad.add k) = some (.int .u8 x) := by
  obtain ⟨ad, e, hb, _, hc⟩ := h.at_ (byteRows_get hx)
  exact ⟨ad, e, hb, by simpa using hc 0 _ rfl⟩
/-- block g is a source over a code -/
structure Src (K : Code) (g : Nat) (w : World) : Prop where
  rd : Rd w g K.A 1 (byteRows K.bs)
  blk : ∃ p s : Int, Blk w g 142 #[.slice K.A K.n K.c, .int .i64 p, .int .i64 s] ∧ (0 ≤ p ∧ p ≤ (K.n : Int)) ∧ 0 ≤ s ∧ s ≤ 2147483646
theorem Src.lt {K : Code} {g : Nat} {w : World} (h : Src K g w) : g < w.heap.size := by
  obtain ⟨p, s, hb, _⟩ := h.blk; exact hb.lt
/-- numbers have been drawn, and memory made: all else is as it was -/
structure Nx (K : Code) (g : Nat) (w w' : World) : Prop where
  below : Below g w w'
  others : ∀ h, h < w.heap.size → h ≠ g → w'.heap[h]? = w.heap[h]?
  src : Src K g w'
section
variable {K : Code} {g : Nat} {w w1 w2 w' : World}
theorem Nx.refl (h : Src K g w) : Nx K g w w := ⟨Below.refl _ _, fun _ _ _ => rfl, h⟩
theorem Nx.trans (h : Nx K g w w1) (h' : Nx K g w1 w2) : Nx K g w w2 :=
  ⟨h.below.trans h'.below, fun k hk hne => (h'.others k (Nat.lt_of_lt_of_le hk h.below.size) hne).trans (h.others k hk hne), h'.src⟩
theorem Src.past (h : Src K g w) (hb : Below w.heap.size w w') : Src K g w' := by
  obtain ⟨p, s, hk, hp, hs⟩ := h.blk
  exact ⟨h.rd.below (hb.mono (Nat.le_of_lt h.lt)), p, s, hk.below' hb, hp, hs⟩
/-- a call that leaves all that was there -/
theorem Nx.past (h : Nx K g w w1) (hb : Below w1.heap.size w1 w2) : Nx K g w w2 :=
  ⟨h.below.trans (hb.mono (Nat.le_of_lt h.src.lt)), fun k hk hne => (hb.block k (Nat.lt_of_lt_of_le hk h.below.size)).trans (h.others k hk hne), h.src.past hb⟩
theorem Nx.alloc (h : Nx K g w w1) (o : Obj) : Nx K g w (w1.alloc o) := h.past ((Below.refl _ _).alloc (Nat.le_refl _) _)
theorem Nx.drew (h : Nx K g w w1) : Nx K g w w1.drew := h.past (Below.refl _ _).drew
theorem Nx.size (h : Nx K g w w1) : w.heap.size ≤ w1.heap.size := h.below.size
/-- a block that is not older than the beginning, and not the source, may turn -/
theorem Nx.kept (h : Nx K g w w1) (hlt : g < w.heap.size) {B : Nat} (hB : w.heap.size ≤ B) (hb : Below B w1 w2) : Nx K g w w2 := by
  refine ⟨h.below.trans (hb.mono (by omega)), fun k hk hne => (hb.block k (by omega)).trans (h.others k hk hne), ?_⟩
  obtain ⟨p, s, hk, hp, hs⟩ := h.src.blk
  exact ⟨h.src.rd.below (hb.mono (by omega)), p, s, hk.below hb (by omega), hp, hs⟩
theorem Blk.nx {x : Nat} {t : TypeId} {cs : Array Value} (h : Blk w x t cs) (hN : Nx K g w w') (hne : x ≠ g) : Blk w' x t cs := (hN.others x h.lt hne).trans h
theorem Res.nx {B sz n cap : Nat} {t : TypeId} {A : Option Addr} {rows : List (List Value)} (h : Res B w t sz A n cap rows) (hN : Nx K g w w') (hB : g < B) : Res B w' t sz A n cap rows :=
  h.keep fun x hx => hN.others x (h.lt hx).2 (by have := (h.lt hx).1; omega)
theorem Rd.nx {B sz : Nat} {A : Option Addr} {rows : List (List Value)} (h : Rd w B A sz rows) (hN : Nx K g w w') (hB : B ≤ g) : Rd w' B A sz rows := h.below (hN.below.mono hB)
/-- what a whole draw has left: all that was there before the source -/
theorem Nx.out (h : Nx K g w w1) {B : Nat} (hB : B ≤ g) : Below B w w1 := h.below.mono hB
end

theorem nx_step {K : Code} {g : Nat} {w0 w w' : World} {p v : Int} (h : Nx K g w0 w) (hr : Rd w' g K.A 1 (byteRows K.bs)) (hk : Blk w' g 142 #[.slice K.A K.n K.c, .int .i64 p, .int .i64 v]) (hp : 0 ≤ p ∧ p ≤ (K.n : Int)) (hv : 0 ≤ v ∧ v ≤ 2147483646)
    (ho : ∀ k, k < w.heap.size → k ≠ g → w'.heap[k]? = w.heap[k]?) (hz : w'.os = w.os ∧ w'.tape = w.tape ∧ w'.output = w.output ∧ w.heap.size ≤ w'.heap.size) : Nx K g w0 w' := by
  have hlt := h.src.lt
  refine ⟨h.below.trans ⟨hz.1, hz.2.1, hz.2.2.1, hz.2.2.2, fun k hk' => ho k (by omega) (by omega)⟩, fun k hk' hne => (ho k (Nat.lt_of_lt_of_le hk' h.size) hne).trans (h.others k hk' hne), hr, p, v, hk, hp, hv⟩

set_option maxHeartbeats 2000000 in
theorem spec_l01Next_any (K : Code) (hK : K.Ok) (g : Nat) (w0 : World) (n : Int) (w : World) (hT : Nx K g w0 w) :
    Calls Tryz.prog 74 #[.pointer (some ⟨g, 0, none⟩), .int .i64 n] w fun e w' => ∃ x : Int, e = .returned (.int .i64 x) ∧ (0 ≤ x ∧ x ≤ max 0 (n - 1)) ∧ Nx K g w0 w' := by
  obtain ⟨p, s, hk, ⟨p0, p1⟩, s0, s1⟩ := hT.src.blk
  have HRD := Lib.hid hT.src.rd
  have HT := Lib.hid hT; clear hT
  have HK := Lib.hid hK; clear hK
  have hsm := HK.out.small
  by_cases hn : n ≤ 1
  · go_enter Tryz.func74, Tryz.ntmps74
    go_wp2
    go_ret
    exact ⟨0, rfl, by omega, HT.out⟩
  have hn0 : 0 < n := by omega
  have c0 : w.cell? ⟨g, 0, none⟩ = some (.slice K.A K.n K.c) := hk.cell 0
  have c1 : w.cell? ⟨g, 1, none⟩ = some (.int .i64 p) := hk.cell 1
  have c2 : w.cell? ⟨g, 2, none⟩ = some (.int .i64 s) := hk.cell 2
  have z2 : w.frozen? ⟨g, 2, none⟩ = false := hk.frozen 2
  obtain ⟨v, hv⟩ : ∃ v, (s * 48271 + 71) % 2147483647 = v := ⟨_, rfl⟩
  have hm : 0 ≤ s * 48271 + 71 ∧ s * 48271 + 71 ≤ 200000000000000 := by omega
  have hv0 : 0 ≤ v ∧ v ≤ 2147483646 := by omega
  have HV := Lib.hid hv
  have hk1 := hk.set_ 2 (.int .i64 v)
  have hg1 : g < w.heap.size := hk.lt
  -- the seed has turned
  have HW := Lib.hid (show ∀ w', Below w.heap.size (w.setCell ⟨g, 2, none⟩ (.int .i64 v)) w' → Blk w' g 142 #[.slice K.A K.n K.c, .int .i64 p, .int .i64 v] ∧ Rd w' g K.A 1 (byteRows K.bs) ∧ Nx K g w0 w' from fun w' hb => by
    have hkz : Blk w' g 142 #[.slice K.A K.n K.c, .int .i64 p, .int .i64 v] := Blk.below (by simpa using hk1) hb hg1
    have hrz : Rd w' g K.A 1 (byteRows K.bs) := (HRD.out.setCell (p := ⟨g, 2, none⟩) (Nat.le_refl _) _).below (hb.mono (Nat.le_of_lt hg1))
    exact ⟨hkz, hrz, nx_step HT.out hrz hkz ⟨p0, p1⟩ hv0 (fun k hk' hne => (hb.block k hk').trans (Below.heap_setCell _ _ _ k hne)) ⟨hb.os, hb.tape, hb.output, Nat.le_trans (Nat.le_of_eq (by simp)) hb.size⟩⟩)
  clear hk hk1
  go_enter Tryz.func74, Tryz.ntmps74
  go_wp2
  have hsz : (w.setCell ⟨g, 2, none⟩ (.int .i64 v)).heap.size = w.heap.size := by simp
  generalize w.setCell ⟨g, 2, none⟩ (.int .i64 v) = W1 at HW hsz ⊢
  rw [← hsz] at HW
  clear hv HV c0 c1 c2 z2
  obtain ⟨v0, v1⟩ := hv0
  have hq : 0 ≤ v / 41 ∧ v / 41 ≤ 2147483646 := by omega
  obtain ⟨q0, q1⟩ := hq
  obtain ⟨k1, r1, _⟩ := HW.out W1 (Below.refl _ _)
  have d0 := fun y : Past W1 => Past.cell (p := ⟨g, 0, none⟩) (k1.cell 0) y
  have d1 := fun y : Past W1 => Past.cell (p := ⟨g, 1, none⟩) (k1.cell 1) y
  have d2 : W1.cell? ⟨g, 2, none⟩ = some (.int .i64 v) := k1.cell 2
  obtain ⟨A, N, C, bs⟩ := K
  simp only at hsm p1 d0 d1 k1 r1
  by_cases hpn : p < (N : Int)
  rotate_left
  · clear k1 r1
    go_wp2
    refine wp_region_past (by kernel_rfl) (by kernel_rfl) ?_
    repeat (go_big_quiet_step (fail))
    refine wpQuiet_nil ?_
    rintro _ ⟨y, rfl⟩
    go_wp2
    go_ret
    exact ⟨_, rfl, ⟨Int.emod_nonneg _ (by omega), by have := Int.emod_lt_of_pos (v / 41) hn0; omega⟩, (HW.out y.1 y.2).2.2⟩
  obtain ⟨q, rfl⟩ := Int.eq_ofNat_of_zero_le p0
  obtain ⟨x, hx⟩ := get_of_lt (xs := bs) (k := q) (by have := HK.out.len; simp only at this; omega)
  have hxb := HK.out.byte x (List.mem_of_getElem? hx)
  obtain ⟨x0, x1⟩ := hxb
  obtain ⟨ad, rfl, had, hc⟩ := r1.byte_at hx
  clear hx k1 r1
  have d3 := fun y : Past W1 => Past.cell hc y
  clear hc
  go_wp2
  refine wp_region_past (by kernel_rfl) (by kernel_rfl) ?_
  repeat (go_big_quiet_step (fail))
  refine wpQuiet_nil ?_
  rintro _ ⟨y, rfl⟩
  have D0 := fun z : Past y.1 => Past.cell (d0 y) z
  have D1 := fun z : Past y.1 => Past.cell (d1 y) z
  have D3 := fun z : Past y.1 => Past.cell (d3 y) z
  go_wp2
  refine wp_region_past (by kernel_rfl) (by kernel_rfl) ?_
  repeat (go_big_quiet_step (fail))
  refine wpQuiet_nil ?_
  rintro _ ⟨z, rfl⟩
  have hbz : Below W1.heap.size W1 z.1 := below_step y.2 z.2
  obtain ⟨k2, r2, N2⟩ := HW.out z.1 hbz
  try dsimp only at k2 r2
  have hc2 := D3 z
  obtain ⟨Z, hZ⟩ : ∃ Z, Z = z.1 := ⟨_, rfl⟩
  rw [← hZ] at k2 r2 N2 hc2 ⊢
  clear d0 d1 d2 d3 D0 D1 D3 hbz hZ z y HW
  have c0 : Z.cell? ⟨g, 0, none⟩ = some (.slice (some ad) N C) := k2.cell 0
  have c1 : Z.cell? ⟨g, 1, none⟩ = some (.int .i64 (q : Int)) := k2.cell 1
  have z1 : Z.frozen? ⟨g, 1, none⟩ = false := k2.frozen 1
  have k3 := k2.set_ 1 (.int .i64 ((q : Int) + 1))
  have hgZ : g < Z.heap.size := k2.lt
  have HS := Lib.hid (show ∀ w', Below Z.heap.size (Z.setCell ⟨g, 1, none⟩ (.int .i64 ((q : Int) + 1))) w' → Blk w' g 142 #[.slice (some ad) N C, .int .i64 ((q : Int) + 1), .int .i64 v] ∧ Nx ⟨some ad, N, C, bs⟩ g w0 w' ∧ w'.cell? (ad.add q) = some (.int .u8 x) from fun w' hb => by
    have hkz : Blk w' g 142 #[.slice (some ad) N C, .int .i64 ((q : Int) + 1), .int .i64 v] := Blk.below (by simpa using k3) hb hgZ
    have hrz := ((r2.setCell (p := ⟨g, 1, none⟩) (Nat.le_refl _) (.int .i64 ((q : Int) + 1))).below (hb.mono (Nat.le_of_lt hgZ)))
    refine ⟨hkz, nx_step N2 hrz hkz (by simp only; omega) ⟨v0, v1⟩ (fun k hk' hne => (hb.block k hk').trans (Below.heap_setCell _ _ _ k hne)) ⟨hb.os, hb.tape, hb.output, Nat.le_trans (Nat.le_of_eq (by simp)) hb.size⟩, ?_⟩
    rw [hb.cell (by rw [block_of_add]; omega), World.cell?_setCell_other _ _ _ _ (fun e => by have := congrArg Addr.block e; rw [block_of_add] at this; simp at this; omega)]
    exact hc2)
  clear k2 r2 N2 k3
  by_cases hn2 : n ≤ 256
  rotate_left
  · go_wp2
    go_ret
    exact ⟨_, rfl, ⟨Int.emod_nonneg _ (by omega), by have := Int.emod_lt_of_pos (v / 41 + x) hn0; omega⟩, (HS.out _ (Below.refl _ _)).2.1⟩
  rcases (show ((q : Int) + 1) % 2 = 0 ∨ ((q : Int) + 1) % 2 = 1 by omega) with hpar | hpar
  rotate_left
  · have hb2 : (((q : Int) + 1) % 2 == 0) = false := by rw [hpar]; rfl
    have hb3 : (((q : Int) + 1).tmod 2 == 0) = false := by rw [Int.tmod_eq_emod_of_nonneg (by omega)]; exact hb2
    go_wp2
    go_ret
    exact ⟨_, rfl, ⟨Int.emod_nonneg _ (by omega), by have := Int.emod_lt_of_pos (v / 41 + x) hn0; omega⟩, (HS.out _ (Below.refl _ _)).2.1⟩
  have hb2 : (((q : Int) + 1) % 2 == 0) = true := by rw [hpar]; rfl
  have hb3 : (((q : Int) + 1).tmod 2 == 0) = true := by rw [Int.tmod_eq_emod_of_nonneg (by omega)]; exact hb2
  have hsz2 : (Z.setCell ⟨g, 1, none⟩ (.int .i64 ((q : Int) + 1))).heap.size = Z.heap.size := by simp
  go_wp2
  generalize Z.setCell ⟨g, 1, none⟩ (.int .i64 ((q : Int) + 1)) = W3 at HS hsz2 ⊢
  rw [← hsz2] at HS
  obtain ⟨k3, _, hc3⟩ := HS.out W3 (Below.refl _ _)
  have d0 := fun y : Past W3 => Past.cell (p := ⟨g, 0, none⟩) (k3.cell 0) y
  have d1 := fun y : Past W3 => Past.cell (p := ⟨g, 1, none⟩) (k3.cell 1) y
  have d3 := fun y : Past W3 => Past.cell hc3 y
  have hw1 : IntKind.i64.wrap ((q : Int) + 1 - 1) = (q : Int) := by rw [IntWalk.i64_in _ (by omega)]; omega
  clear hc2 c0 c1 z1 hpar hb2 hb3 k3 hc3
  refine wp_region_past (by kernel_rfl) (by kernel_rfl) ?_
  repeat (go_big_quiet_step (fail))
  refine wpQuiet_nil ?_
  rintro _ ⟨y, rfl⟩
  go_wp2
  go_ret
  exact ⟨_, rfl, ⟨Int.emod_nonneg _ (by omega), by have := Int.emod_lt_of_pos x hn0; omega⟩, (HS.out y.1 y.2).2.1⟩

/-- a number of a list -/
def OneOf : List Value → Int → Prop
  | [], _ => False
  | v :: rest, x => v = .int .i64 x ∨ OneOf rest x
def isI64 : Value → Bool
  | .int .i64 _ => true
  | _ => false
theorem oneOf_mem : ∀ {cs : List Value} {v : Value}, cs.all isI64 = true → v ∈ cs → ∃ x : Int, v = .int .i64 x ∧ OneOf cs x
  | [], v, _, h => by cases h
  | c :: rest, v, ha, h => by
    simp only [List.all_cons, Bool.and_eq_true] at ha
    rcases List.mem_cons.1 h with rfl | h
    · match v, ha.1 with
      | .int .i64 x, _ => exact ⟨x, rfl, .inl rfl⟩
    · obtain ⟨x, e, ho⟩ := oneOf_mem ha.2 h
      exact ⟨x, e, .inr ho⟩
theorem spec_l01Pick_any (K : Code) (hK : K.Ok) (g : Nat) (w0 : World) (h : Nat) (cs : List Value) (m : Nat) (w : World) (hT : Nx K g w0 w) (hB : Blk w h 2 cs.toArray) (hne : g < h) (hm : cs.length = m) (hm0 : 0 < m) (hm1 : m ≤ 100) (hi : cs.all isI64 = true) :
    Calls Tryz.prog 79 #[.pointer (some ⟨g, 0, none⟩), .slice (some ⟨h, 0, none⟩) m m] w fun e w' => ∃ x : Int, e = .returned (.int .i64 x) ∧ OneOf cs x ∧ Nx K g w0 w' := by
  have HB := Lib.hid hB; clear hB
  have HT := Lib.hid hT; clear hT
  have HI := Lib.hid hi; clear hi
  go_enter Tryz.func79, Tryz.ntmps79
  go_wp2_with fail
  refine (spec_l01Next_any K hK g w (m : Int) w (Nx.refl HT.out.src)).mono ?_
  rintro e w1 ⟨x, rfl, ⟨x0, x1⟩, hN⟩
  obtain ⟨q, rfl⟩ := Int.eq_ofNat_of_zero_le x0
  have hq : q < m := by omega
  have HB1 := HB.out.nx hN (by omega)
  obtain ⟨v, hv⟩ := get_of_lt (xs := cs) (k := q) (by omega)
  have hc : w1.cell? ⟨h, q, none⟩ = some v := by rw [HB1.cell]; simpa using hv
  obtain ⟨y, rfl, ho⟩ := oneOf_mem HI.out (List.mem_of_getElem? hv)
  have HN := Lib.hid (HT.out.trans hN)
  have HO := Lib.hid ho
  clear hN HB1 hv ho
  go_wp2
  go_ret
  exact ⟨_, rfl, HO.out, HN.out⟩

set_option maxHeartbeats 2000000 in
theorem spec_l01From_any (K : Code) (hK : K.Ok) (w : World) (hX : Rd w w.heap.size K.A 1 (byteRows K.bs)) :
    Calls Tryz.prog 69 #[.slice K.A K.n K.c] w fun e w' => ∃ g : Nat, e = .returned (.pointer (some ⟨g, 0, none⟩)) ∧ w.heap.size ≤ g ∧ Below w.heap.size w w' ∧ Src K g w' := by
  obtain ⟨A, N, C, bs⟩ := K
  have hlen := hK.len
  have hsm := hK.small
  have HBY := Lib.hid hK.byte
  simp only at hlen hsm HBY hX
  have HX := Lib.hid hX; clear hX
  have HK := Lib.hid hK; clear hK
  have HL := Lib.hid hlen; clear hlen
  obtain ⟨G, hG⟩ : ∃ G, w.heap.size = G := ⟨_, rfl⟩
  have hbw : Below w.heap.size w (w.alloc (.cells #[.slice A N C, .int .i64 0, .int .i64 25001] 142)) := (Below.refl _ w).alloc (Nat.le_refl _) _
  have HB := Lib.hid (Blk.new w 142 #[.slice A N C, .int .i64 0, .int .i64 25001])
  have HBW := Lib.hid hbw; clear hbw
  have HGZ := Lib.hid hG
  rw [hG] at HX HB
  go_enter Tryz.func69, Tryz.ntmps69
  go_wp2
  clear hG
  go_loopw [4] (fun i wr => ∃ (k : Nat) (s : Int), k ≤ N ∧ i = .int .i64 k ∧ Blk wr G 142 #[.slice A N C, .int .i64 0, .int .i64 s] ∧ (0 ≤ s ∧ s ≤ 2147483646) ∧ Hid (Below w.heap.size w wr)) (fun i _ => N - (intOf i).toNat)
  case atStart => exact ⟨0, 25001, by omega, rfl, HB.out, by omega, HBW⟩
  case round =>
    obtain ⟨k, s, hk, rfl, hB, ⟨s0, s1⟩, HBr⟩ := hrel
    have hR : Rd wr G A 1 (byteRows bs) := by rw [← HGZ.out] at HX ⊢; exact HX.out.below HBr.out
    have HRr := Lib.hid hR
    by_cases hlt : k < N ∧ k < 64
    · obtain ⟨hkN, hk64⟩ := hlt
      obtain ⟨x, hx⟩ := get_of_lt (xs := bs) (k := k) (by rw [HL.out]; exact hkN)
      obtain ⟨x0, x1⟩ := HBY.out x (List.mem_of_getElem? hx)
      obtain ⟨ad, rfl, had, hc⟩ := hR.byte_at hx
      clear hx hR
      have hki : (k : Int) < (N : Int) := by omega
      have hki2 : (k : Int) < 64 := by omega
      have d0 := fun y : Past wr => Past.cell (p := ⟨G, 2, none⟩) (hB.cell 2) y
      have d1 := fun y : Past wr => Past.cell hc y
      have hv : 0 ≤ (s * 71 + x) % 2147483647 ∧ (s * 71 + x) % 2147483647 ≤ 2147483646 := by omega
      have hm : 0 ≤ s * 71 + x ∧ s * 71 + x ≤ 200000000000000 := by omega
      have HBB := Lib.hid hB; clear hB hc
      go_wp2
      refine wp_region_past_tail 15 (by kernel_rfl) (by kernel_rfl) ?_
      simp only [List.take_succ_cons, List.take_zero, List.drop_succ_cons, List.drop_zero]
      repeat (go_big_quiet_step (fail))
      refine wpQuiet_nil ?_
      rintro _ ⟨y, rfl⟩
      clear d0 d1
      have hby : Below w.heap.size w y.1 := HBr.out.trans (y.2.mono HBr.out.size)
      have HBy := Lib.hid (HBB.out.below' y.2)
      have HBYy := Lib.hid hby; clear hby
      have c2 : y.1.cell? ⟨G, 2, none⟩ = some (.int .i64 s) := HBy.out.cell 2
      have z2 : y.1.frozen? ⟨G, 2, none⟩ = false := HBy.out.frozen 2
      have hGw : w.heap.size ≤ G := by rw [HGZ.out]; exact Nat.le_refl _
      go_wp2
      go_roundw
      case rel => exact ⟨k + 1, (s * 71 + x) % 2147483647, by omega, by go_num, by simpa using HBy.out.set_ 2 (.int .i64 ((s * 71 + x) % 2147483647)), hv, Lib.hid (HBYy.out.setCell (by show w.heap.size ≤ G; exact hGw) _)⟩
      case measure => simp [intOf]; omega
    · have HN := Lib.hid hlt
      have hfin : Src ⟨A, N, C, bs⟩ G wr := ⟨hR, 0, s, hB, by simp, s0, s1⟩
      have HFin := Lib.hid hfin; clear hfin hR hB
      have hGw : w.heap.size ≤ G := by rw [HGZ.out]; exact Nat.le_refl _
      by_cases hkN : k < N
      · have hki : (k : Int) < (N : Int) := by omega
        have hk64 : ¬ (k : Int) < 64 := by have := HN.out; omega
        clear hlt
        go_wp2
        go_ret
        exact ⟨G, rfl, hGw, HBr.out, HFin.out⟩
      · have hki : ¬ (k : Int) < (N : Int) := by omega
        clear hlt
        go_wp2
        go_ret
        exact ⟨G, rfl, hGw, HBr.out, HFin.out⟩
end Go.Proofs.YtlbllonpodckgaaGreatDoor
