/- What the law on journals leans on: a recovered ledger is short, what a cut leaves, codes, dice. -/
import Derived.Test.YtlbllonpodckgaaGreatDoorRecP
import Derived.Test.YtlbllonpodckgaaGreatDoorJrnP
import Derived.Test.YtlbllonpodckgaaGreatDoorDrawL
import Derived.Test.YtlbllonpodckgaaGreatDoorDraw
import Derived.Test.YtlbllonpodckgaaGreatDoorLaw
import Derived.Test.YtlbllonpodckgaaGreatDoorHeld
import Derived.Test.YtlbllonpodckgaaGreatDoorLikes
namespace Go.Proofs.YtlbllonpodckgaaGreatDoor
section
open Go.RowKit Go.BigFrame
theorem recL_len : ∀ (ls : List (List UInt8)) (out : List Entry) (c : Int), out.length ≤ 150 → (recL ls out c).length ≤ 150
  | [], out, c, h => by rw [recL]; exact h
  | l :: ls, out, c, h => by
    rw [recL]
    cases hn : nextO out c l with
    | none => exact h
    | some e =>
      have h1 := (nextO_some hn).1
      exact recL_len ls (out ++ [e]) (chkP c e) (by simp; omega)
theorem recP_len (l : List UInt8) : (recP l).1.length ≤ 150 := by
  unfold recP
  split
  · simp
  · exact recL_len _ [] 0 (by simp)
end
section
open Go.RowKit Go.BigFrame
theorem count_step {T : List UInt8} {k : Nat} (hk : k < T.length) : (T[k].toNat = 10 → (T.take (k + 1)).count 10 = (T.take k).count 10 + 1) ∧ (¬ T[k].toNat = 10 → (T.take (k + 1)).count 10 = (T.take k).count 10) := by
  rw [List.take_add_one, List.getElem?_eq_getElem hk, Option.toList_some, List.count_append]
  constructor
  · intro h
    have : T[k] = 10 := UInt8.toNat_inj.1 h
    rw [this]; rfl
  · intro h
    rw [List.count_singleton, if_neg (by intro e; exact h (by rw [beq_iff_eq.1 e]; rfl))]
    omega
theorem jour_count (xs : List Entry) (h : ∀ x ∈ xs, entryB x = true) : (jourS xs).2.count 10 = xs.length := by
  rw [jour_jt]; exact jt_count xs 0 h
theorem entries_cap {B n c : Nat} {w : World} {A : Option Addr} (h : EntriesBy B w A n c) : n ≤ c := by
  obtain ⟨xs, hR, _⟩ := h
  rcases hR.own.2 with ⟨h1, h2⟩ | ⟨g, c, cur, e, _, _, hnc, _⟩
  · simp only [Value.slice.injEq] at h1; omega
  · simp only [Value.slice.injEq] at e; omega
end
section
open Go.ChangeShapes Go.WideShapes Go.ChangeAt Go.RowKit Go.Deep

section
variable {H : Type} {enc : TypeId × Value → H} {P : Program} {w : World} {base : Nat} {spare : Nat → Bool} {held : Bool}
theorem open_code {t e : TypeId} {fuel n cap : Nat} {A : Option Addr} {x : DataW H × List MemPlace} (ht : P.underlying t = some (.slice e)) (he : P.underlying e = some (.int .u8)) (hC : P.cellsOf e = 1)
    (h : DataW.trod enc P w base spare held fuel t [.slice A n cap] = some x) :
    ∃ bs : List Int, bs.length = n ∧ (∀ z ∈ bs, 0 ≤ z ∧ z ≤ 255) ∧ Rd w w.heap.size A 1 (byteRows bs) ∧ n ≤ 9223372036854775807 := by
  rcases open_slice ht h with ⟨h0, _⟩ | ⟨a, len, cap', m', n', D, Pl, hcs, hb, hl, hmx, hmm, _, hel⟩
  · simp only [List.cons.injEq, Value.slice.injEq, and_true] at h0
    obtain ⟨rfl, rfl, _⟩ := h0
    exact ⟨[], rfl, by simp, .inl rfl, by omega⟩
  · simp only [List.cons.injEq, Value.slice.injEq, and_true] at hcs
    obtain ⟨rfl, rfl, rfl⟩ := hcs
    have hle : n ≤ m' := by rw [hmm]; split <;> omega
    have each : ∀ i : Nat, i < n → ∃ z : Int, (0 ≤ z ∧ z ≤ 255) ∧ w.cell? (a.add i) = some (.int .u8 z) := by
      intro i hin
      obtain ⟨cs', hc, htr⟩ := hel i (by omega)
      obtain ⟨z, rfl, _, wn⟩ := DataW.trod_int he htr
      obtain ⟨_, hcl, hat⟩ := World.cells?_some hc
      have := hat 0 (by rw [hC]; omega)
      rw [hC, add_of_add] at this
      refine ⟨z, ?_, by simpa using this⟩
      simpa [Lit.wf, IntKind.min, IntKind.max, IntKind.signed, IntKind.bits] using wn
    obtain ⟨bs, hbl, hbs⟩ := list_of n each
    have hmx' : n ≤ 9223372036854775807 := by unfold maxLen at *; omega
    refine ⟨bs, hbl, fun z hz => ?_, ?_, hmx'⟩
    · obtain ⟨i, hi', rfl⟩ := List.getElem_of_mem hz
      exact (hbs i _ (List.getElem?_eq_getElem hi')).1
    · rcases Nat.eq_zero_or_pos n with h0 | h0
      · have : bs = [] := List.eq_nil_of_length_eq_zero (by omega)
        subst this; exact .inl rfl
      · have hblk : a.block < w.heap.size := by
          obtain ⟨z, hz⟩ := get_of_lt (xs := bs) (k := 0) (by omega)
          have := block_lt_of_cell (hbs 0 z hz).2
          rwa [block_of_add] at this
        refine .inr ⟨a, rfl, hblk, fun k r hk => ?_⟩
        simp only [byteRows, List.getElem?_map, Option.map_eq_some_iff] at hk
        obtain ⟨z, hk, rfl⟩ := hk
        refine ⟨rfl, fun j v hv => ?_⟩
        have hj : j = 0 := by have := (List.getElem?_eq_some_iff.1 hv).1; simp at this; exact this
        subst hj
        simp only [List.getElem?_cons_zero, Option.some.injEq] at hv
        subst hv
        simpa using (hbs k z hk).2
end
theorem laws_big_any (A : Option Addr) (n cap : Nat) (w : World) (_hn : n ≤ 9223372036854775807) : Calls Tryz.prog 13 #[.slice A n cap] w fun e w' => e = .returned (.bool (decide (4096 < n))) ∧ w = w' := by
  by_cases h : 4096 < n
  · go_enter Tryz.func13, Tryz.ntmps13
    go_wp2
    go_ret
    exact ⟨by simp; omega, rfl⟩
  · go_enter Tryz.func13, Tryz.ntmps13
    go_wp2
    go_ret
    exact ⟨by simp; omega, rfl⟩
end
section
open Go.RowKit Go.BigFrame
theorem Rd.up {w : World} {B B' sz : Nat} {A : Option Addr} {rows : List (List Value)} (h : Rd w B A sz rows) (hB : B ≤ B') : Rd w B' A sz rows := by
  rcases h with h | ⟨ad, e, hb, hc⟩
  · exact .inl h
  · exact .inr ⟨ad, e, by omega, hc⟩
set_option maxHeartbeats 4000000 in
theorem laws_roll_any (K : Code) (hK : K.Ok) (seed : Int) (w : World) (hX : Rd w w.heap.size K.A 1 (byteRows K.bs)) :
    Calls Tryz.prog 19 #[.slice K.A K.n K.c, .int .u64 seed] w fun e w' => ∃ g : Nat, e = .returned (.pointer (some ⟨g, 0, none⟩)) ∧ w.heap.size ≤ g ∧ (∃ h : Int, Blk w' g 102 #[.slice K.A K.n K.c, .int .i64 0, .int .u64 h]) ∧ Below w.heap.size w w' := by
  obtain ⟨A, N, C, bs⟩ := K
  have hlen := hK.len
  have hsm := hK.small
  have HBY := Lib.hid hK.byte
  simp only at hlen hsm HBY hX
  have HX := Lib.hid hX; clear hX
  have HK := Lib.hid hK; clear hK
  have HL := Lib.hid hlen; clear hlen
  go_enter Tryz.func19, Tryz.ntmps19
  go_wp2
  generalize IntKind.u64.wrap (IntKind.u64.wrap (seed * 9341) + (N : Int)) = h0
  have HB0 := Lib.hid (show Below w.heap.size w (w.alloc (.cells #[.slice A N C, .int .i64 0, .int .u64 h0] 102)) from (Below.refl _ w).alloc (Nat.le_refl _) _)
  have HD0 := Lib.hid (Blk.new w 102 #[.slice A N C, .int .i64 0, .int .u64 h0])
  generalize w.alloc (.cells #[.slice A N C, .int .i64 0, .int .u64 h0] 102) = W0 at HB0 HD0 ⊢
  obtain ⟨G, hG⟩ : ∃ G, w.heap.size = G := ⟨_, rfl⟩
  rw [hG] at HD0 HX HB0 ⊢
  go_loopw [6] (fun i wr => ∃ (k : Nat) (h : Int), k ≤ N ∧ i = .int .i64 k ∧ Hid (Blk wr G 102 #[.slice A N C, .int .i64 0, .int .u64 h]) ∧ Hid (Below G w wr)) (fun i _ => N - (intOf i).toNat)
  case atStart => exact ⟨0, h0, by omega, rfl, HD0, HB0⟩
  case round =>
    obtain ⟨k, h, hk, rfl, HD, HB⟩ := hrel
    by_cases hlt : k < N
    · obtain ⟨x, hx⟩ := get_of_lt (xs := bs) (k := k) (by rw [HL.out]; exact hlt)
      obtain ⟨x0, x1⟩ := HBY.out x (List.mem_of_getElem? hx)
      obtain ⟨ad, rfl, had, hc⟩ := (HX.out.below HB.out).byte_at hx
      clear hx
      have hki : (k : Int) < (N : Int) := by omega
      have d2 : wr.cell? ⟨G, 2, none⟩ = some (.int .u64 h) := HD.out.cell 2
      have z2 : wr.frozen? ⟨G, 2, none⟩ = false := HD.out.frozen 2
      go_wp2
      go_region
      all_goals
        have HD1 := Lib.hid (show ∀ v : Int, Blk (wr.setCell ⟨G, 2, none⟩ (.int .u64 v)) G 102 #[.slice (some ad) N C, .int .i64 0, .int .u64 v] from fun v => by simpa using HD.out.set_ 2 (.int .u64 v))
        have HB1 := Lib.hid (fun v : Int => HB.out.setCell (p := ⟨G, 2, none⟩) (Nat.le_refl _) (.int .u64 v))
        go_wp2
        go_roundw
        case rel => exact ⟨k + 1, _, by omega, by go_num, Lib.hid (HD1.out _), Lib.hid (by first | exact HB1.out _ | exact (HB1.out _).drew)⟩
        case measure => simp [intOf]; omega
    · have hki : ¬ (k : Int) < (N : Int) := by omega
      go_wp2
      go_ret
      exact ⟨G, rfl, Nat.le_refl _, ⟨h, HD.out⟩, HB.out⟩
theorem and24 (a : Int) (h : 0 ≤ a ∧ a ≤ 18446744073709551615) : 0 ≤ bits .and .u64 a 16777215 ∧ bits .and .u64 a 16777215 ≤ 16777215 := by
  have h1 := bits_and_u64_nat a.toNat 16777215 (by omega) (by omega)
  rw [Int.toNat_of_nonneg h.1] at h1
  have h2 : a.toNat &&& 16777215 ≤ 16777215 := Nat.and_le_right
  have h3 : bits .and .u64 a 16777215 = ((a.toNat &&& 16777215 : Nat) : Int) := h1
  omega
theorem u64_wrap (z : Int) : 0 ≤ IntKind.u64.wrap z ∧ IntKind.u64.wrap z ≤ 18446744073709551615 := by
  have h : IntKind.u64.wrap z = z % 18446744073709551616 := by simp [IntKind.wrap, IntKind.bits, IntKind.signed]
  rw [h]; omega
theorem tmod_lt {x n : Int} (hx : 0 ≤ x) (hn : 1 ≤ n) : 0 ≤ x.tmod n ∧ x.tmod n < n := by
  rw [Int.tmod_eq_emod_of_nonneg hx]
  exact ⟨Int.emod_nonneg _ (by omega), Int.emod_lt_of_pos _ (by omega)⟩
set_option maxHeartbeats 4000000 in
theorem laws_below_any (K : Code) (hK : K.Ok) (g : Nat) (h n : Int) (w : World) (hX : Rd w g K.A 1 (byteRows K.bs)) (hD : Blk w g 102 #[.slice K.A K.n K.c, .int .i64 0, .int .u64 h]) (hn : 1 ≤ n) (hn2 : n ≤ 1000000) :
    Calls Tryz.prog 20 #[.pointer (some ⟨g, 0, none⟩), .int .i64 n] w fun e w' => ∃ x : Int, e = .returned (.int .i64 x) ∧ (0 ≤ x ∧ x < n) ∧ Below g w w' := by
  obtain ⟨A, N, C, bs⟩ := K
  have hlen := hK.len
  have HBY := Lib.hid hK.byte
  simp only at hlen HBY hX hD
  have HX := Lib.hid hX; clear hX
  have HK := Lib.hid hK; clear hK
  have HD := Lib.hid hD; clear hD
  have d2 : w.cell? ⟨g, 2, none⟩ = some (.int .u64 h) := HD.out.cell 2
  have z2 : w.frozen? ⟨g, 2, none⟩ = false := HD.out.frozen 2
  go_enter Tryz.func20, Tryz.ntmps20
  go_wp2
  obtain ⟨v0, v1⟩ := u64_wrap (IntKind.u64.wrap (h * 6364136223846793005) + 1442695040888963407)
  generalize IntKind.u64.wrap (IntKind.u64.wrap (h * 6364136223846793005) + 1442695040888963407) = v at v0 v1 ⊢
  obtain ⟨a0, a1⟩ := and24 (v / 8589934592) (by omega)
  generalize bits .and .u64 (v / 8589934592) 16777215 = a at a0 a1 ⊢
  rw [show wrap64 a = a from by unfold wrap64; omega]
  have HD1 := Lib.hid (show Blk (w.setCell ⟨g, 2, none⟩ (.int .u64 v)) g 102 #[.slice A N C, .int .i64 0, .int .u64 v] by simpa using HD.out.set_ 2 (.int .u64 v))
  have HX1 := Lib.hid (HX.out.below ((Below.refl g w).setCell (p := ⟨g, 2, none⟩) (Nat.le_refl _) (.int .u64 v)))
  have HB1 := Lib.hid ((Below.refl g w).setCell (p := ⟨g, 2, none⟩) (Nat.le_refl _) (.int .u64 v))
  clear d2 z2 v0 v1
  generalize w.setCell ⟨g, 2, none⟩ (.int .u64 v) = W1 at HD1 HX1 HB1 ⊢
  have d0 : W1.cell? ⟨g, 0, none⟩ = some (.slice A N C) := HD1.out.cell 0
  have d1 : W1.cell? ⟨g, 1, none⟩ = some (.int .i64 0) := HD1.out.cell 1
  have z1 : W1.frozen? ⟨g, 1, none⟩ = false := HD1.out.frozen 1
  by_cases hN : 0 < N
  rotate_left
  · have hNi : ¬ (0 : Int) < (N : Int) := by omega
    clear hN
    go_region
    all_goals
      go_wp2
      go_ret
      exact ⟨_, rfl, by first | exact tmod_lt a0 hn | exact ⟨Int.emod_nonneg _ (by omega), Int.emod_lt_of_pos _ (by omega)⟩, by first | exact HB1.out | exact HB1.out.drew⟩
  have hNi : (0 : Int) < (N : Int) := by omega
  obtain ⟨x, hx⟩ := get_of_lt (xs := bs) (k := 0) (by omega)
  obtain ⟨x0, x1⟩ := HBY.out x (List.mem_of_getElem? hx)
  obtain ⟨ad, rfl, had, hc⟩ := HX1.out.byte_at hx
  have hc0 : W1.cell? ad = some (.int .u8 x) := by have := hc; rwa [Addr.add_zero'] at this
  have hsum : 0 ≤ a + x ∧ a + x ≤ 100000000 := by omega
  clear hx
  go_region
  all_goals go_wp2
  all_goals go_region
  all_goals
    go_wp2
    go_ret
    refine ⟨_, rfl, by first | exact tmod_lt hsum.1 hn | exact ⟨Int.emod_nonneg _ (by omega), Int.emod_lt_of_pos _ (by omega)⟩, ?_⟩
    first | exact (HB1.out.setCell (p := ⟨g, 1, none⟩) (Nat.le_refl _) _) | exact (HB1.out.drew.drew.setCell (p := ⟨g, 1, none⟩) (Nat.le_refl _) _) | exact (HB1.out.drew.setCell (p := ⟨g, 1, none⟩) (Nat.le_refl _) _) | exact (HB1.out.drew.drew.setCell (p := ⟨g, 1, none⟩) (Nat.le_refl _) _).drew
end
end Go.Proofs.YtlbllonpodckgaaGreatDoor
