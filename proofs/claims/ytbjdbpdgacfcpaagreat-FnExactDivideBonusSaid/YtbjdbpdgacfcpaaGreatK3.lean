/- Parts of a proof, one after another: Within, Sort1, Sort2. No condition. -/
import Derived.Test.YtbjdbpdgacfcpaaGreatK0
import Derived.Test.YtbjdbpdgacfcpaaGreatK1
import Derived.Test.YtbjdbpdgacfcpaaGreatK2
/- Lists of numbers within bounds: the program's and the reference's contracts. -/
section
namespace Go.Proofs.YtbjdbpdgacfcpaaGreat
open Go.RowKit Go.BigFrame

theorem allIn1_any (x lo hi : Int) (p q : Addr) (w : World) (hp : w.cell? p = some (.int .i64 lo)) (hq : w.cell? q = some (.int .i64 hi)) :
    Calls Tryz.prog 184 #[.int .i64 x, .pointer (some p), .pointer (some q)] w fun e w' => e = .returned (.bool (!inR x lo hi)) ∧ w = w' := by
  go_enter Tryz.func184, Tryz.ntmps184
  go_wp2_with (first | (go_at_call 82; refine (impl_inRange_any _ _ _ _).mono ?_; rintro e w' ⟨rfl, rfl⟩))
  go_ret
  exact ⟨rfl, rfl⟩

set_option maxHeartbeats 1000000 in
theorem indexIn_any (A : Option Addr) (n cap : Nat) (xs : List Int) (lo hi : Int) (p q : Addr) (w : World) (hl : xs.length = n) (hn : n ≤ 1048576) (hX : Rd w w.heap.size A 1 (intRows xs)) (hp : w.cell? p = some (.int .i64 lo)) (hq : w.cell? q = some (.int .i64 hi)) :
    Calls Tryz.prog 187 #[.slice A n cap, .func (.func 184) #[] #[.pointer (some p), .pointer (some q)]] w fun e w' => ∃ i : Int, e = .returned (.int .i64 i) ∧ (xs.any (fun x => !inR x lo hi) = decide (0 ≤ i)) ∧ w = w' := by
  have HX := Lib.hid hX; clear hX
  have HL := Lib.hid hl; clear hl
  go_enter Tryz.func187, Tryz.ntmps187
  go_wp2
  go_loop [8] (fun i => ∃ k : Nat, k ≤ n ∧ i = .int .i64 k ∧ (xs.take k).any (fun x => !inR x lo hi) = false) (fun i => n - (intOf i).toNat)
  case atStart => exact ⟨0, by omega, rfl, rfl⟩
  case round =>
    obtain ⟨k, hk, rfl, hany⟩ := hrel
    have HA := Lib.hid hany; clear hany
    by_cases hlt : k < n
    · obtain ⟨x, hx⟩ := get_of_lt (xs := xs) (k := k) (by rw [HL.out]; exact hlt)
      obtain ⟨ad, rfl, had, hc⟩ := HX.out.int_at hx
      have Hx := Lib.hid hx; clear hx
      go_wp2_with fail
      refine (allIn1_any x lo hi p q _ hp hq).mono ?_
      rintro e w1 ⟨rfl, rfl⟩
      by_cases hb : inR x lo hi = true
      · go_wp2
        go_round
        case rel => exact ⟨k + 1, by omega, by go_num, any_succ HA.out Hx.out (by simp [hb])⟩
        case measure => simp [intOf]; omega
      · have hb' : inR x lo hi = false := by simpa using hb
        clear hb
        go_wp2
        go_ret
        exact ⟨_, rfl, by rw [any_stop Hx.out (by simp [hb'])]; simp, rfl⟩
    · have hkn : k = n := by omega
      subst hkn
      go_wp2
      go_ret
      exact ⟨_, rfl, by rw [any_end HL.out HA.out]; simp, rfl⟩

theorem containsIn_any (A : Option Addr) (n cap : Nat) (xs : List Int) (lo hi : Int) (p q : Addr) (w : World) (hl : xs.length = n) (hn : n ≤ 1048576) (hX : Rd w w.heap.size A 1 (intRows xs)) (hp : w.cell? p = some (.int .i64 lo)) (hq : w.cell? q = some (.int .i64 hi)) :
    Calls Tryz.prog 161 #[.slice A n cap, .func (.func 184) #[] #[.pointer (some p), .pointer (some q)]] w fun e w' => e = .returned (.bool (xs.any fun x => !inR x lo hi)) ∧ w = w' := by
  have HX := Lib.hid hX; clear hX
  have HL := Lib.hid hl; clear hl
  go_enter Tryz.func161, Tryz.ntmps161
  go_wp2_with fail
  refine (indexIn_any A n cap xs lo hi p q w HL.out hn HX.out hp hq).mono ?_
  rintro e w1 ⟨i, rfl, hi, rfl⟩
  have Hi := Lib.hid hi; clear hi
  go_wp2
  go_ret
  exact ⟨by rw [Hi.out]; rfl, rfl⟩

def allR (xs : List Int) (lo hi : Int) : Bool := xs.all fun x => inR x lo hi
theorem allR_any (xs : List Int) (lo hi : Int) : allR xs lo hi = !xs.any fun x => !inR x lo hi := by
  unfold allR
  induction xs with
  | nil => rfl
  | cons x r ih => simp [ih]

theorem impl_allIn_any (A : Option Addr) (n cap : Nat) (xs : List Int) (lo hi : Int) (w : World) (hl : xs.length = n) (hn : n ≤ 1048576) (hX : Rd w w.heap.size A 1 (intRows xs)) :
    Calls Tryz.prog 158 #[.slice A n cap, .int .i64 lo, .int .i64 hi] w fun e w' => e = .returned (.bool (allR xs lo hi)) ∧ Below w.heap.size w w' := by
  have hb : Below w.heap.size w ((w.alloc (.cells #[.int .i64 lo] 2)).alloc (.cells #[.int .i64 hi] 2)) := ((Below.refl _ w).alloc (Nat.le_refl _) _).alloc (by simp) _
  have HX := Lib.hid (hX.past hb); clear hX
  have HL := Lib.hid hl; clear hl
  rw [allR_any]
  go_enter Tryz.func158, Tryz.ntmps158
  go_wp2_with fail
  refine (containsIn_any A n cap xs lo hi ⟨w.heap.size, 0, none⟩ ⟨w.heap.size + 1, 0, none⟩ _ HL.out hn HX.out (by go_simp) (by go_simp)).mono ?_
  rintro e w1 ⟨rfl, rfl⟩
  go_wp2
  go_ret
  exact ⟨rfl, hb⟩

set_option maxHeartbeats 1000000 in
theorem spec_l01Within_any (A : Option Addr) (n cap : Nat) (xs : List Int) (m lo hi : Int) (w : World) (hl : xs.length = n) (hn : n ≤ 1048576) (hX : Rd w w.heap.size A 1 (intRows xs)) :
    Calls Tryz.prog 181 #[.slice A n cap, .int .i64 m, .int .i64 lo, .int .i64 hi] w fun e w' => e = .returned (.bool (allR xs lo hi && decide ((n : Int) ≤ m))) ∧ w = w' := by
  have HX := Lib.hid hX; clear hX
  have HL := Lib.hid hl; clear hl
  go_enter Tryz.func181, Tryz.ntmps181
  go_wp2
  go_loop [9] (fun i => ∃ k : Nat, k ≤ n ∧ i = .int .i64 k ∧ (xs.take k).all (fun x => inR x lo hi) = true) (fun i => n - (intOf i).toNat)
  case atStart => exact ⟨0, by omega, rfl, rfl⟩
  case round =>
    obtain ⟨k, hk, rfl, hany⟩ := hrel
    have HA := Lib.hid hany; clear hany
    by_cases hlt : k < n
    · obtain ⟨x, hx⟩ := get_of_lt (xs := xs) (k := k) (by rw [HL.out]; exact hlt)
      obtain ⟨ad, rfl, had, hc⟩ := HX.out.int_at hx
      have Hx := Lib.hid hx; clear hx
      by_cases hb : inR x lo hi = true
      · go_wp2_with (first | (go_at_call 85; refine (spec_l01In_any _ _ _ _).mono ?_; rintro e w' ⟨rfl, rfl⟩))
        go_round
        case rel => exact ⟨k + 1, by omega, by go_num, all_succ HA.out Hx.out hb⟩
        case measure => simp [intOf]; omega
      · have hb' : inR x lo hi = false := by simpa using hb
        clear hb
        go_wp2_with (first | (go_at_call 85; refine (spec_l01In_any _ _ _ _).mono ?_; rintro e w' ⟨rfl, rfl⟩))
        go_ret
        exact ⟨by rw [allR, all_stop Hx.out hb']; rfl, rfl⟩
    · have hkn : k = n := by omega
      subst hkn
      go_wp2
      go_ret
      exact ⟨by rw [allR, all_end HL.out HA.out]; rfl, rfl⟩
end Go.Proofs.YtbjdbpdgacfcpaaGreat
end

/- Sorting the indices: the row that is sorted, the comparison, the exchange of two ranges. -/
section
namespace Go.Proofs.YtbjdbpdgacfcpaaGreat
open Go.RowKit Go.BigFrame

def natRows (n : Nat) (f : Nat → Nat) : List (List Value) := (List.range n).map fun k => [Value.int .i64 ((f k : Nat) : Int)]
theorem natRows_get {n k : Nat} (f : Nat → Nat) (h : k < n) : (natRows n f)[k]? = some [Value.int .i64 ((f k : Nat) : Int)] := by simp [natRows, h]
theorem natRows_length (n : Nat) (f : Nat → Nat) : (natRows n f).length = n := by simp [natRows]
theorem natRows_sw {n i j : Nat} (f : Nat → Nat) : ((natRows n f).set i [Value.int .i64 ((f j : Nat) : Int)]).set j [Value.int .i64 ((f i : Nat) : Int)] = natRows n (sw i j f) := by
  apply List.ext_getElem?
  intro k
  simp only [natRows, List.getElem?_set, List.length_set, List.length_map, List.length_range, List.getElem?_map]
  by_cases hk : k < n
  · by_cases h2 : j = k
    · subst h2
      by_cases h1 : j = i
      · subst h1; simp [hk, sw]
      · simp [hk, sw, h1]
    · by_cases h1 : i = k
      · subst h1; simp [hk, sw, h2]
      · simp [hk, sw, h2, h1, Ne.symm h1, Ne.symm h2]
  · by_cases h2 : j = k
    · simp [hk, h2]
    · by_cases h1 : i = k
      · simp [hk, h2, h1]
      · simp [hk, h2, h1]
/-- only the row that is sorted has been turned since w0 -/
structure SW (B : Nat) (w0 w : World) (g n c : Nat) (f : Nat → Nat) : Prop where
  res : Res B w 3 1 (some ⟨g, 0, none⟩) n c (natRows n f)
  bl : Below B w0 w
  kp : ∀ k, k < w0.heap.size → k ≠ g → w.heap[k]? = w0.heap[k]?
namespace SW
variable {B g n c : Nat} {w0 w w' w1 : World} {f f' : Nat → Nat}
theorem start (h : Res B w 3 1 (some ⟨g, 0, none⟩) n c (natRows n f)) : SW B w w g n c f := ⟨h, Below.refl _ _, fun _ _ _ => rfl⟩
theorem gB (h : SW B w0 w g n c f) : B ≤ g ∧ g < w.heap.size := h.res.lt rfl
theorem trans (h : SW B w0 w1 g n c f) (h' : SW B w1 w g n c f') : SW B w0 w g n c f' :=
  ⟨h'.res, h.bl.trans h'.bl, fun k hk hg => (h'.kp k (Nat.lt_of_lt_of_le hk h.bl.size) hg).trans (h.kp k hk hg)⟩
theorem past (h : SW B w0 w g n c f) (hb : Below w.heap.size w w') : SW B w0 w' g n c f :=
  ⟨h.res.past hb, h.bl.trans (hb.mono (by have := h.gB; omega)), fun k hk hg => (hb.block k (Nat.lt_of_lt_of_le hk h.bl.size)).trans (h.kp k hk hg)⟩
theorem drew (h : SW B w0 w g n c f) : SW B w0 w.drew g n c f := ⟨h.res.drew, h.bl.drew, h.kp⟩
theorem cell (h : SW B w0 w g n c f) {k : Nat} (hk : k < n) : w.cell? ⟨g, k, none⟩ = some (.int .i64 ((f k : Nat) : Int)) ∧ w.frozen? ⟨g, k, none⟩ = false := by
  obtain ⟨g', h1, _, _, h2, h3, _⟩ := h.res.put (k := k) (j := 0) (natRows_get f hk) (by omega)
  injection h1 with h1; injection h1 with h1; subst h1
  rw [Nat.mul_one, Nat.add_zero] at h2 h3
  exact ⟨h2 _ rfl, h3⟩
theorem swap (h : SW B w0 w g n c f) {i j : Nat} (hi : i < n) (hj : j < n) :
    SW B w0 ((w.setCell ⟨g, i, none⟩ (.int .i64 ((f j : Nat) : Int))).setCell ⟨g, j, none⟩ (.int .i64 ((f i : Nat) : Int))) g n c (sw i j f) := by
  have hB := h.gB.1
  obtain ⟨g', h1, _, _, _, _, hp⟩ := h.res.put (k := i) (j := 0) (natRows_get f hi) (by omega)
  injection h1 with h1; injection h1 with h1; subst h1
  rw [Nat.mul_one, Nat.add_zero] at hp
  have hr := hp (.int .i64 ((f j : Nat) : Int))
  have hl : j < ((natRows n f).set i ([Value.int .i64 ((f i : Nat) : Int)].set 0 (Value.int .i64 ((f j : Nat) : Int)))).length := by simpa [natRows_length] using hj
  obtain ⟨r, hrr⟩ := get_of_lt hl
  have hlen := hr.all r (List.mem_of_getElem? hrr)
  obtain ⟨g', h1, _, _, _, _, hp2⟩ := hr.put (k := j) (j := 0) hrr (by omega)
  injection h1 with h1; injection h1 with h1; subst h1
  rw [Nat.mul_one, Nat.add_zero] at hp2
  have hr2 := hp2 (.int .i64 ((f i : Nat) : Int))
  have hr1 : r.set 0 (Value.int .i64 ((f i : Nat) : Int)) = [Value.int .i64 ((f i : Nat) : Int)] := by
    match r, hlen with
    | [_], _ => rfl
  rw [hr1, show [Value.int .i64 ((f i : Nat) : Int)].set 0 (Value.int .i64 ((f j : Nat) : Int)) = [Value.int .i64 ((f j : Nat) : Int)] from rfl, natRows_sw] at hr2
  refine ⟨hr2, (h.bl.setCell (p := ⟨g, i, none⟩) hB _).setCell (p := ⟨g, j, none⟩) hB _, fun k hk hg => ?_⟩
  rw [Below.heap_setCell _ _ _ _ (show k ≠ g from hg), Below.heap_setCell _ _ _ _ (show k ≠ g from hg)]
  exact h.kp k hk hg
end SW
/-- the comparison's answer -/
def cmpV (r : List Int) (x y : Nat) : Int := if r.getD y 0 < r.getD x 0 then -1 else if r.getD x 0 < r.getD y 0 then 1 else 0
theorem cmpV_neg {r : List Int} {x y : Nat} : cmpV r x y < 0 ↔ Gt r x y := by
  unfold cmpV Gt
  split
  · simp_all
  · split <;> simp_all
/-- what the comparison reads -/
structure Cm (w : World) (q1 q2 q3 g : Nat) (a s : Int) (X : Option Addr) (m xc : Nat) (ws : List Int) : Prop where
  b1 : Blk w q1 2 #[.int .i64 a]
  b2 : Blk w q2 24 #[.slice X m xc]
  b3 : Blk w q3 2 #[.int .i64 s]
  rd : Rd w w.heap.size X 1 (intRows ws)
  n1 : q1 ≠ g
  n2 : q2 ≠ g
  n3 : q3 ≠ g
  nX : ∀ ad, X = some ad → ad.block ≠ g
  len : ws.length = m
  a0 : 0 ≤ a
  a1 : a ≤ 1000000000
  s0 : 1 ≤ s
  s1 : s ≤ 1000000000000
  w0 : ∀ x ∈ ws, 0 ≤ x ∧ x ≤ 1000000000
namespace Cm
variable {w w' : World} {q1 q2 q3 g : Nat} {a s : Int} {X : Option Addr} {m xc : Nat} {ws : List Int}
theorem past (h : Cm w q1 q2 q3 g a s X m xc ws) (hb : Below w.heap.size w w') : Cm w' q1 q2 q3 g a s X m xc ws :=
  { h with b1 := h.b1.below' hb, b2 := h.b2.below' hb, b3 := h.b3.below' hb, rd := h.rd.past hb }
theorem sw {B n c : Nat} {f : Nat → Nat} (h : Cm w q1 q2 q3 g a s X m xc ws) (hs : SW B w w' g n c f) : Cm w' q1 q2 q3 g a s X m xc ws := by
  refine { h with b1 := (hs.kp _ h.b1.lt h.n1).trans h.b1, b2 := (hs.kp _ h.b2.lt h.n2).trans h.b2, b3 := (hs.kp _ h.b3.lt h.n3).trans h.b3, rd := ?_ }
  have hk : KeptBut w w' (some ⟨g, 0, none⟩) := fun k hk hne => hs.kp k hk (fun e => hne (by rw [e]; rfl))
  exact (h.rd.keptX hk (Nat.le_refl _) (fun ad e h2 => h.nX ad e (by injection h2))).more hs.bl.size
end Cm
set_option maxRecDepth 20000 in
set_option maxHeartbeats 4000000 in
theorem cmp_any {w : World} {q1 q2 q3 g : Nat} {a s : Int} {X : Option Addr} {m xc : Nat} {ws : List Int} (C : Cm w q1 q2 q3 g a s X m xc ws) {x y : Nat} (hx : x < m) (hy : y < m) :
    Calls Tryz.prog 186 #[.int .i64 (x : Int), .int .i64 (y : Int), .pointer (some ⟨q1, 0, none⟩), .pointer (some ⟨q2, 0, none⟩), .pointer (some ⟨q3, 0, none⟩)] w fun e w' => e = .returned (.int .i64 (cmpV (rests a s ws) x y)) ∧ Below w.heap.size w w' := by
  obtain ⟨u, hu⟩ := get_of_lt (xs := ws) (k := x) (by rw [C.len]; exact hx)
  obtain ⟨v, hv⟩ := get_of_lt (xs := ws) (k := y) (by rw [C.len]; exact hy)
  obtain ⟨u0, u1⟩ := C.w0 u (List.mem_of_getElem? hu)
  obtain ⟨v0, v1⟩ := C.w0 v (List.mem_of_getElem? hv)
  have a0 := C.a0; have a1 := C.a1; have s0 := C.s0; have s1 := C.s1
  have m1 := Int.mul_nonneg a0 u0
  have m2 := Int.mul_le_mul a1 u1 u0 (by omega)
  have m3 := Int.mul_nonneg a0 v0
  have m4 := Int.mul_le_mul a1 v1 v0 (by omega)
  have ru : (rests a s ws).getD x 0 = a * u % s := by simp [rests, hu]
  have rv : (rests a s ws).getD y 0 = a * v % s := by simp [rests, hv]
  have HQ := Lib.hid (show cmpV (rests a s ws) x y = if a * v % s < a * u % s then -1 else if a * u % s < a * v % s then 1 else 0 by unfold cmpV; rw [ru, rv])
  obtain ⟨ad, hX, had, hcu⟩ := C.rd.int_at hu
  obtain ⟨ad2, hX2, had2, hcv⟩ := C.rd.int_at hv
  rw [hX] at hX2
  injection hX2 with hX2; subst hX2; subst hX
  have d1 := fun z : Past w => Past.cell (C.b1.cell 0) z
  have d2 := fun z : Past w => Past.cell (C.b2.cell 0) z
  have d3 := fun z : Past w => Past.cell (C.b3.cell 0) z
  have d4 := fun z : Past w => Past.cell hcu z
  have d5 := fun z : Past w => Past.cell hcv z
  have hs0 : s ≠ 0 := by omega
  have hxm : (x : Int) < (m : Int) := by omega
  have hym : (y : Int) < (m : Int) := by omega
  clear hcu hcv ru rv hu hv C hx hy
  go_enter Tryz.func186, Tryz.ntmps186
  go_wp2
  refine wp_region_past (by kernel_rfl) (by kernel_rfl) ?_
  repeat (go_big_quiet_step (fail))
  refine wpQuiet_nil ?_
  rintro _ ⟨z, rfl⟩
  generalize a * u % s = ru at *
  generalize a * v % s = rv at *
  clear d1 d2 d3 d4 d5
  by_cases h1 : rv < ru
  · have H1 := Lib.hid h1
    have hb1 : decide (rv < ru) = true := by simpa using h1
    go_wp2
    go_ret
    exact ⟨by rw [HQ.out, if_pos H1.out]; rfl, z.2⟩
  · have H1 := Lib.hid h1
    have hb1 : decide (rv < ru) = false := by simpa using h1
    by_cases h2 : ru < rv
    · have H2 := Lib.hid h2
      have hb2 : decide (ru < rv) = true := by simpa using h2
      go_wp2
      go_ret
      exact ⟨by rw [HQ.out, if_neg (by have := H1.out; omega), if_pos H2.out]; rfl, z.2⟩
    · have H2 := Lib.hid h2
      have hb2 : decide (ru < rv) = false := by simpa using h2
      go_wp2
      go_ret
      exact ⟨by rw [HQ.out, if_neg (by have := H1.out; omega), if_neg (by have := H2.out; omega)]; rfl, z.2⟩
theorem cmp_past {w : World} {q1 q2 q3 g : Nat} {a s : Int} {X : Option Addr} {m xc : Nat} {ws : List Int} (C : Cm w q1 q2 q3 g a s X m xc ws) {x y : Nat} (hx : x < m) (hy : y < m) {v : Int} (hv : cmpV (rests a s ws) x y = v) (z : Past w) :
    Calls Tryz.prog 186 #[.int .i64 (x : Int), .int .i64 (y : Int), .pointer (some ⟨q1, 0, none⟩), .pointer (some ⟨q2, 0, none⟩), .pointer (some ⟨q3, 0, none⟩)] z.1 fun e w' => e = .returned (.int .i64 v) ∧ Below z.1.heap.size z.1 w' :=
  (cmp_any (C.past z.2) hx hy).mono (by rw [hv]; exact fun _ _ h => h)
set_option maxRecDepth 20000 in
set_option maxHeartbeats 4000000 in
theorem swapRange_any {B g n c : Nat} {w : World} {f : Nat → Nat} (x y k : Nat) (cf : Value) (h : SW B w w g n c f) (hn : n ≤ 1000) (hxy : x + k ≤ y) (hy : y + k ≤ n) :
    Calls Tryz.prog 205 #[.slice (some ⟨g, 0, none⟩) n c, .int .i64 (x : Int), .int .i64 (y : Int), .int .i64 (k : Int), cf] w fun e w' => e = .returned (.tuple #[]) ∧ SW B w w' g n c (swr x y k f) := by
  have HS := Lib.hid h; clear h
  go_enter Tryz.func205, Tryz.ntmps205
  go_wp2
  go_loopw [10] (fun i wr => ∃ j : Nat, j ≤ k ∧ i = .int .i64 j ∧ SW B w wr g n c (swr x y j f)) (fun i _ => k - (intOf i).toNat)
  case atStart => exact ⟨0, by omega, rfl, by rw [swr_zero]; exact HS.out⟩
  case round =>
    obtain ⟨j, hj, rfl, h⟩ := hrel
    have HW := Lib.hid h; clear h
    by_cases hlt : j < k
    · obtain ⟨c1, z1⟩ := HW.out.cell (k := x + j) (by omega)
      obtain ⟨c2, z2⟩ := HW.out.cell (k := y + j) (by omega)
      have hji : (j : Int) < (k : Int) := by omega
      have hb1 : (x : Int) + (j : Int) < (n : Int) := by omega
      have hb2 : (y : Int) + (j : Int) < (n : Int) := by omega
      have hb3 : (n : Int) ≤ 1000 := by omega
      go_wp2
      go_region
      go_wp2
      go_roundw
      case rel => exact ⟨j + 1, by omega, by go_num, by rw [← swr_succ (by omega)]; exact (HW.out.swap (by omega) (by omega)).drew⟩
      case measure => simp [intOf]; omega
    · have hjk : j = k := by omega
      subst hjk
      go_wp2
      go_end0
      exact ⟨rfl, HW.out⟩
end Go.Proofs.YtbjdbpdgacfcpaaGreat
end

/- Sorting the indices: rotation and insertion. -/
section
namespace Go.Proofs.YtbjdbpdgacfcpaaGreat
open Go.RowKit Go.BigFrame

set_option maxRecDepth 20000 in
set_option maxHeartbeats 4000000 in
theorem rotate_any {B g n c : Nat} {w : World} {f : Nat → Nat} (a m b : Nat) (cf : Value) (h : SW B w w g n c f) (hn : n ≤ 1000) (ham : a < m) (hmb : m < b) (hb : b ≤ n) :
    Calls Tryz.prog 204 #[.slice (some ⟨g, 0, none⟩) n c, .int .i64 (a : Int), .int .i64 (m : Int), .int .i64 (b : Int), cf] w fun e w' => e = .returned (.tuple #[]) ∧ SW B w w' g n c (rotF a m b f) := by
  have HS := Lib.hid h; clear h
  have hbi : (b : Int) ≤ 1000 := by omega
  go_enter Tryz.func204, Tryz.ntmps204
  go_wp2
  go_loopw [10, 11] (fun i j wr => ∃ (I J : Nat) (f' : Nat → Nat), i = .int .i64 (I : Int) ∧ j = .int .i64 (J : Int) ∧ 0 < I ∧ 0 < J ∧ a + I ≤ m ∧ m + J ≤ b ∧ Hid (rotF (m - I) m (m + J) f' = rotF a m b f) ∧ Hid (SW B w wr g n c f')) (fun i j _ => (intOf i).toNat + (intOf j).toNat)
  case atStart => exact ⟨m - a, b - m, f, by congr 1; omega, by congr 1; omega, by omega, by omega, by omega, by omega, Lib.hid (by rw [show m - (m - a) = a by omega, show m + (b - m) = b by omega]), HS⟩
  case round =>
    obtain ⟨I, J, f', rfl, rfl, hI, hJ, hIm, hJb, HF, HW⟩ := hrel
    have eI : ((m - I : Nat) : Int) = (m : Int) - (I : Int) := by omega
    have eJ : ((m + J - I : Nat) : Int) = (m : Int) + (J : Int) - (I : Int) ∨ J ≤ I := by omega
    by_cases hlt : J < I
    · have hne : ((I : Int) != (J : Int)) = true := by simp; omega
      have hgt : decide ((J : Int) < (I : Int)) = true := by simp; omega
      have HC := swapRange_any (m - I) m J cf (SW.start HW.out.res) hn (by omega) (by omega)
      rw [eI] at HC
      have HC := Lib.hid HC
      clear eI eJ
      go_wp2_with (go_at_call 205; refine HC.out.mono ?_; rintro e w1 ⟨rfl, h1⟩)
      go_roundw
      case rel => exact ⟨I - J, J, _, by congr 1; omega, rfl, by omega, hJ, by omega, hJb, Lib.hid ((rot_left hlt (by omega) f').trans HF.out), Lib.hid (HW.out.trans h1)⟩
      case measure => simp [intOf]; omega
    · by_cases heq : I = J
      · have hne : ((I : Int) != (J : Int)) = false := by simp [heq]
        have HEQ := Lib.hid heq
        have HC := swapRange_any (m - I) m I cf (SW.start HW.out.res) hn (by omega) (by omega)
        rw [eI] at HC
        have HC := Lib.hid HC
        clear eI eJ heq
        go_wp2_with (go_at_call 205; refine HC.out.mono ?_; rintro e w1 ⟨rfl, h1⟩)
        go_end0
        refine ⟨rfl, ?_⟩
        rw [← HF.out, ← HEQ.out, ← rot_same (by omega)]
        exact HW.out.trans h1
      · have hne : ((I : Int) != (J : Int)) = true := by simp; omega
        have hgt : decide ((J : Int) < (I : Int)) = false := by simp; omega
        have HC := swapRange_any (m - I) (m + J - I) I cf (SW.start HW.out.res) hn (by omega) (by omega)
        rw [eI, eJ.resolve_right (by omega)] at HC
        have HC := Lib.hid HC
        have HNE := Lib.hid heq
        clear eI eJ heq
        go_wp2_with (go_at_call 205; refine HC.out.mono ?_; rintro e w1 ⟨rfl, h1⟩)
        go_roundw
        case rel => exact ⟨I, J - I, _, rfl, by congr 1; omega, hI, by have := HNE.out; omega, hIm, by omega, Lib.hid ((rot_right (by have := HNE.out; omega) (by omega) f').trans HF.out), Lib.hid (HW.out.trans h1)⟩
        case measure => simp [intOf]; omega
theorem Mv.lt {a b n m : Nat} {f f' : Nat → Nat} (h : Mv a b f f') (hb : b ≤ n) (hm : ∀ k, k < n → f k < m) : ∀ k, k < n → f' k < m := by
  intro k hk
  by_cases hk' : a ≤ k ∧ k < b
  · obtain ⟨j, _, j2, e⟩ := h.from_ k hk'.1 hk'.2
    rw [e]; exact hm j (by omega)
  · rw [h.out k (by omega)]; exact hm k hk
set_option maxRecDepth 20000 in
set_option maxHeartbeats 4000000 in
theorem insertion_any {B g n c : Nat} {w : World} {f : Nat → Nat} {q1 q2 q3 : Nat} {am s : Int} {X : Option Addr} {m xc : Nat} {ws : List Int} (a b : Nat) (C : Cm w q1 q2 q3 g am s X m xc ws) (h : SW B w w g n c f) (hn : n ≤ 1000) (hab : a ≤ b) (hb : b ≤ n)
    (hinc : ∀ p q, a ≤ p → p < q → q < b → f p < f q) (hm : ∀ k, k < n → f k < m) :
    Calls Tryz.prog 201 #[.slice (some ⟨g, 0, none⟩) n c, .int .i64 (a : Int), .int .i64 (b : Int), .func (.func 186) #[] #[.pointer (some ⟨q1, 0, none⟩), .pointer (some ⟨q2, 0, none⟩), .pointer (some ⟨q3, 0, none⟩)]] w
      fun e w' => e = .returned (.tuple #[]) ∧ ∃ f', SW B w w' g n c f' ∧ Mv a b f f' ∧ Srt (rests am s ws) f' a b := by
  have HS := Lib.hid h; clear h
  have HC := Lib.hid C; clear C
  have HI := Lib.hid hinc; clear hinc
  have HM := Lib.hid hm; clear hm
  have hbi : (b : Int) ≤ 1000 := by omega
  have hai : (a : Int) ≤ 1000 := by omega
  go_enter Tryz.func201, Tryz.ntmps201
  go_wp2
  go_loopw [8] (fun i wr => ∃ (I : Nat) (f' : Nat → Nat), i = .int .i64 (I : Int) ∧ a + 1 ≤ I ∧ I ≤ b + 1 ∧ Hid (Ins (rests am s ws) a b I f f') ∧ Hid (SW B w wr g n c f')) (fun i _ => b + 1 - (intOf i).toNat)
  case atStart => exact ⟨a + 1, f, by go_num, Nat.le_refl _, by omega, Lib.hid (Ins.start HI.out), HS⟩
  case round =>
    obtain ⟨I, f1, rfl, hI, hIb, HIN, HW⟩ := hrel
    by_cases hlt : ¬ I < b
    · have hni : ¬ (I : Int) < (b : Int) := by omega
      go_wp2
      go_end0
      exact ⟨rfl, f1, HW.out, HIN.out.mv, HIN.out.srt.sub (Nat.le_refl _) (by omega)⟩
    · replace hlt : I < b := by omega
      have hli : (I : Int) < (b : Int) := by omega
      rename World => w1
      go_wp2
      go_loopw [9] (fun j wr => ∃ (J : Nat) (f' : Nat → Nat), j = .int .i64 (J : Int) ∧ a ≤ J ∧ J ≤ I ∧ Hid (Inn (rests am s ws) a b I J f f') ∧ Hid (SW B w wr g n c f')) (fun j _ => (intOf j).toNat)
      case atStart => exact ⟨I, f1, rfl, by omega, Nat.le_refl _, Lib.hid (HIN.out.inn hlt), HW⟩
      case round =>
        clear HW HIN
        obtain ⟨J, f2, rfl, hJ, hJI, HIN, HW⟩ := hrel
        rename World => w2
        have HCC := Lib.hid (HC.out.sw HW.out)
        have hJn : J < n := by omega
        have hJi : (J : Int) < (n : Int) := by omega
        by_cases hja : J = a
        · have hgd : decide ((a : Int) < (J : Int)) = false := by simp; omega
          have hgd' : decide (a < J) = false := by simp; omega
          have HJA := Lib.hid hja; clear hja
          go_wp2
          refine wp_region_past (by kernel_rfl) (by kernel_rfl) ?_
          repeat (go_big_quiet_step (fail))
          refine wpQuiet_nil ?_
          rintro _ ⟨z, rfl⟩
          go_wp2
          go_roundw
          case rel => exact ⟨I + 1, f2, by go_num, by omega, by omega, Lib.hid (HIN.out.stop (.inl HJA.out)), Lib.hid (HW.out.past z.2)⟩
          case measure => simp [intOf]; omega
        · have hja' : a < J := by omega
          have hgd : decide ((a : Int) < (J : Int)) = true := by simp; omega
          have HX1 := HIN.out.mv.lt hb HM.out J hJn
          have HX2 := HIN.out.mv.lt hb HM.out (J - 1) (by omega)
          obtain ⟨c1, z1⟩ := HW.out.cell (k := J) (by omega)
          obtain ⟨c2, z2⟩ := HW.out.cell (k := J - 1) (by omega)
          have d1 := fun z : Past w2 => Past.cell c1 z
          have d2 := fun z : Past w2 => Past.cell c2 z
          have hJ1 : (J : Int) - 1 < (n : Int) := by omega
          have hJ2 : 0 ≤ (J : Int) - 1 := by omega
          clear c1 c2 z1 z2 hja
          obtain ⟨v, hv⟩ : ∃ v, cmpV (rests am s ws) (f2 J) (f2 (J - 1)) = v := ⟨_, rfl⟩
          have HV := Lib.hid hv
          by_cases hg : Gt (rests am s ws) (f2 J) (f2 (J - 1))
          · have hvn : v < 0 := by rw [← hv]; exact cmpV_neg.2 hg
            have hvb : decide (v < 0) = true := by simpa using hvn
            have HG := Lib.hid hg; clear hv hg hvn
            go_wp2
            refine wp_region_past (by kernel_rfl) (by kernel_rfl) ?_
            repeat (go_big_quiet_step ((go_simp; go_at_call 186; exact past_call (cmp_past HCC.out HX1 HX2 HV.out _))))
            refine wpQuiet_nil ?_
            rintro _ ⟨z, rfl⟩
            have HWz := Lib.hid (HW.out.past z.2)
            clear d1 d2
            obtain ⟨c1, z1⟩ := HWz.out.cell (k := J) (by omega)
            obtain ⟨c2, z2⟩ := HWz.out.cell (k := J - 1) (by omega)
            go_wp2
            go_region
            go_wp2
            go_roundw
            case rel => exact ⟨J - 1, _, by congr 1; omega, by omega, by omega, Lib.hid (HIN.out.step hja' HG.out), Lib.hid ((HWz.out.swap hJn (by omega)).drew)⟩
            case measure => simp [intOf]; omega
          · have hvn : ¬ v < 0 := by rw [← hv]; exact fun h => hg (cmpV_neg.1 h)
            have hvb : decide (v < 0) = false := by simpa using hvn
            have HG := Lib.hid hg; clear hv hg hvn
            go_wp2
            refine wp_region_past (by kernel_rfl) (by kernel_rfl) ?_
            repeat (go_big_quiet_step ((go_simp; go_at_call 186; exact past_call (cmp_past HCC.out HX1 HX2 HV.out _))))
            refine wpQuiet_nil ?_
            rintro _ ⟨z, rfl⟩
            have HWz := Lib.hid (HW.out.past z.2)
            clear d1 d2
            go_wp2
            go_roundw
            case rel => exact ⟨I + 1, f2, by go_num, by omega, by omega, Lib.hid (HIN.out.stop (.inr HG.out)), HWz⟩
            case measure => simp [intOf]; omega
end Go.Proofs.YtbjdbpdgacfcpaaGreat
end
