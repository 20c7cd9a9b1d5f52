/- Parts of a proof, one after another: Put, DrawPt, DrawPt2, DrawPt3, DrawPt4. No condition. -/
import Derived.Test.YtkdfdbcpbgganaaGreatDoorK0
import Derived.Test.YtkdfdbcpbgganaaGreatDoorK1
import Derived.Test.YtkdfdbcpbgganaaGreatDoorK2
import Derived.Lib.MinMax
import Derived.Deep.Cut
import Derived.Deep.DeepCutAuto
/- One cell of a slice of the call's own is written. No condition. -/
section
namespace Go.Proofs.YtkdfdbcpbgganaaGreatDoor
open Go.RowKit Go.BigFrame
theorem flatten_set {sz : Nat} {v : Value} : ∀ {rows : List (List Value)} {k j : Nat} {r : List Value}, (∀ r ∈ rows, r.length = sz) → rows[k]? = some r → j < sz → (rows.set k (r.set j v)).flatten = rows.flatten.set (k * sz + j) v
  | [], k, j, r, _, hr, _ => by simp at hr
  | a :: rows, 0, j, r, hall, hr, hj => by
    simp only [List.getElem?_cons_zero, Option.some.injEq] at hr
    subst hr
    have hl := hall a (by simp)
    rw [List.set_cons_zero, List.flatten_cons, List.flatten_cons, Nat.zero_mul, Nat.zero_add, List.set_append_left _ _ (by omega)]
  | a :: rows, k + 1, j, r, hall, hr, hj => by
    have hl := hall a (by simp)
    have ih := flatten_set (v := v) (rows := rows) (k := k) (j := j) (r := r) (fun x hx => hall x (by simp [hx])) (by simpa using hr) hj
    have e : (k + 1) * sz + j = sz + (k * sz + j) := by rw [Nat.add_mul]; omega
    rw [List.set_cons_succ, List.flatten_cons, List.flatten_cons, ih, List.set_append_right _ _ (by omega), e, hl, Nat.add_sub_cancel_left]
section
variable {w : World} {B sz n cap : Nat} {t : TypeId} {A : Option Addr} {rows : List (List Value)}
theorem Res.put (h : Res B w t sz A n cap rows) {k j : Nat} {r : List Value} (hr : rows[k]? = some r) (hj : j < sz) :
    ∃ g, A = some ⟨g, 0, none⟩ ∧ B ≤ g ∧ g < w.heap.size ∧ (∀ u, r[j]? = some u → w.cell? ⟨g, k * sz + j, none⟩ = some u) ∧ w.frozen? ⟨g, k * sz + j, none⟩ = false ∧
      ∀ v, Res B (w.setCell ⟨g, k * sz + j, none⟩ v) t sz A n cap (rows.set k (r.set j v)) := by
  have hk := (List.getElem?_eq_some_iff.1 hr).1
  have hn := h.len
  rcases h.own.2 with ⟨_, h0⟩ | ⟨g, cap', cur, e, hb, hh, hnc, hcm, hs, ht⟩
  · omega
  · have hblk : Blk w g t cur := hh
    have hl := h.all r (List.mem_of_getElem? hr)
    have hflat := flat_length h.all
    refine ⟨g, (by injection e), hb, hblk.lt, fun u hu => ?_, hblk.frozen _, fun v => ?_⟩
    · obtain ⟨ad, e2, _, _, hc⟩ := h.rd.at_ hr
      injection e with e1 e3 e4
      rw [e1] at e2
      injection e2 with e2; subst e2
      have := hc j u hu
      rwa [add_none, Nat.zero_add] at this
    · have hset := hblk.set_ (k * sz + j) v
      have hall : ∀ x ∈ rows.set k (r.set j v), x.length = sz := fun x hx => by
        rcases List.mem_or_eq_of_mem_set hx with h' | h'
        · exact h.all x h'
        · rw [h', List.length_set]; exact hl
      refine ⟨⟨by rw [flat_length hall, List.length_set, hn], .inr ⟨g, cap', _, e, hb, hset, hnc, hcm, by simpa using hs, ?_⟩⟩, by simpa using hn, hall⟩
      rw [flatten_set h.all hr hj, ← ht]
      simp [List.take_set]
end
theorem intRows_set (xs : List Int) (k : Nat) (v : Int) : intRows (xs.set k v) = (intRows xs).set k [Value.int .i64 v] := by
  simp [intRows, List.map_set]
theorem Res.putInt {w : World} {B n cap : Nat} {t : TypeId} {A : Option Addr} {xs : List Int} (h : Res B w t 1 A n cap (intRows xs)) {k : Nat} {x : Int} (hx : xs[k]? = some x) :
    ∃ g, A = some ⟨g, 0, none⟩ ∧ B ≤ g ∧ g < w.heap.size ∧ w.cell? ⟨g, k, none⟩ = some (.int .i64 x) ∧ w.frozen? ⟨g, k, none⟩ = false ∧ ∀ v : Int, Res B (w.setCell ⟨g, k, none⟩ (.int .i64 v)) t 1 A n cap (intRows (xs.set k v)) := by
  obtain ⟨g, h1, h2, h3, h4, h5, h6⟩ := h.put (k := k) (j := 0) (intRows_get hx) (by omega)
  rw [Nat.mul_one, Nat.add_zero] at h4 h5 h6
  refine ⟨g, h1, h2, h3, h4 _ rfl, h5, fun v => ?_⟩
  rw [intRows_set]
  exact h6 (.int .i64 v)
end Go.Proofs.YtkdfdbcpbgganaaGreatDoor
end

/- Draws of life tables and of what hangs on them: whatever is drawn, it is a list of its own, and nothing but the source turns. -/
section
namespace Go.Proofs.YtkdfdbcpbgganaaGreatDoor
open Go.RowKit Go.BigFrame
theorem Res.new1 {w : World} {B : Nat} (t : TypeId) (v : Value) (hB : B ≤ w.heap.size) : Res B (w.alloc (.cells #[v] t)) t 1 (some ⟨w.heap.size, 0, none⟩) 1 1 [[v]] :=
  ⟨⟨by simp, .inr ⟨w.heap.size, 1, #[v], rfl, hB, Blk.new w t #[v], Nat.le_refl _, by decide, by simp, by simp⟩⟩, rfl, by simp⟩

theorem spec_l07DrawSum_any (K : Code) (hK : K.Ok) (g : Nat) (w0 : World) (w : World) (hT : Nx K g w0 w) :
    Calls Tryz.prog 86 #[.pointer (some ⟨g, 0, none⟩)] w fun e w' => ∃ x : Int, e = .returned (.int .i64 x) ∧ (0 ≤ x ∧ x ≤ 100000001) ∧ Nx K g w0 w' := by
  go_enter Tryz.func86, Tryz.ntmps86
  go_wp2_with (first | (go_at_call 32; refine (spec_l01Next_any K hK g _ _ _ (Nx.refl (Nx.src (by first | exact hT | exact hT.alloc _ | exact (hT.alloc _).alloc _ | exact hT.drew)))).mono ?_; rintro e w3 ⟨x, rfl, ⟨hx0, hx1⟩, hN⟩; have hT := Nx.trans (by first | exact hT | exact hT.alloc _ | exact (hT.alloc _).alloc _ | exact hT.drew) hN) | (go_at_call 33; refine (spec_l01Pick_new K hK g _ _ _ _ (by first | exact hT | exact hT.alloc _ | exact (hT.alloc _).alloc _ | exact hT.drew) (by rfl) (by decide) (by decide) (by rfl)).mono ?_; rintro e w3 ⟨x, rfl, hx, hT⟩; simp only [OneOf, Value.int.injEq, true_and, or_false] at hx))
  all_goals (go_ret; exact ⟨_, rfl, by omega, hT⟩)
theorem l03End_draw (f : Int) (A : Option Addr) (n c : Nat) (w : World) (hf : -1000 ≤ f ∧ f ≤ 1000) (hn : n ≤ 1000) :
    Calls Tryz.prog 66 #[.agg #[.int .i64 f, .slice A n c]] w fun e w' => e = .returned (.int .i64 (f + (n : Int) - 1)) ∧ Below w.heap.size w w' := by
  go_enter Tryz.func66, Tryz.ntmps66
  go_wp2
  go_ret
  exact ⟨rfl, (Below.refl _ w).alloc (Nat.le_refl _) _⟩

theorem up_part {v x : Int} (hv : 0 ≤ v ∧ v ≤ 20000) (hx : 0 ≤ x ∧ x ≤ 1000) : (0 ≤ v * x ∧ v * x ≤ 20000000) ∧ (0 ≤ ceilDiv (v * x) 1000 ∧ ceilDiv (v * x) 1000 ≤ v) := by
  have h1 := Int.mul_nonneg hv.1 hx.1
  have h2 : v * x ≤ v * 1000 := Int.mul_le_mul_of_nonneg_left hx.2 hv.1
  refine ⟨⟨h1, by omega⟩, ?_⟩
  unfold ceilDiv; omega
theorem ints_all {xs : List Int} (h : ∀ x ∈ xs, 0 ≤ x ∧ x ≤ 1000) : allR xs 0 1000 = true := by
  unfold allR; rw [List.all_eq_true]; exact fun x hx => inR_true.2 (h x hx)

set_option maxRecDepth 100000 in
set_option maxHeartbeats 4000000 in
theorem MakeTable_draw (f l : Int) (A : Option Addr) (n c : Nat) (rs : List Int) (w : World) (hf : 0 ≤ f ∧ f ≤ 50) (hl : 1 ≤ l ∧ l ≤ 20000) (hrs : rs.length = n) (hn : 1 ≤ n ∧ n ≤ 25) (hX : Rd w w.heap.size A 1 (intRows rs)) (hr : ∀ x ∈ rs, 0 ≤ x ∧ x ≤ 1000) :
    Calls Tryz.prog 101 #[.int .i64 f, .int .i64 l, .slice A n c] w fun e w' => ∃ (A' : Option Addr) (n' c' : Nat), e = .returned (.tuple #[.agg #[.int .i64 f, .slice A' n' c'], .int .i64 0]) ∧ IntsBy w.heap.size w' A' n' c' 0 20000 ∧ (1 ≤ n' ∧ n' ≤ 30) ∧ Below w.heap.size w w' := by
  obtain ⟨i0, hi0, hz0, hz1, hz2⟩ := info_parts Int64.info
  have HI := Lib.hid (And.intro hi0 (And.intro hz0 (And.intro hz1 hz2))); clear hi0 hz0 hz1 hz2
  obtain ⟨f0, f1⟩ := hf
  obtain ⟨l0, l1⟩ := hl
  obtain ⟨n0, n1⟩ := hn
  have hbw : Below w.heap.size w (w.alloc (.cells #[.int .i64 0, .slice none 0 0] 26)) := (Below.refl _ w).alloc (Nat.le_refl _) _
  have HX0 := Lib.hid hX
  have HX1 := Lib.hid (hX.past hbw); clear hX
  have HL := Lib.hid hrs; clear hrs
  have HR := Lib.hid hr
  have q1 : inR f 0 100 = true := inR_true.2 (by omega)
  have q2 : inR l 1 1000000 = true := inR_true.2 (by omega)
  have HA := Lib.hid (ints_all hr); clear hr
  have HW1 := Lib.hid (show (allR rs 0 1000 && decide ((n : Int) ≤ min 118 (149 - f))) = true by rw [HA.out]; simp; omega)
  go_enter Tryz.func101, Tryz.ntmps101
  go_wp2_with (first | (go_at_call 72; refine (spec_l01In_any _ _ _ _).mono ?_; rintro e w' ⟨rfl, rfl⟩) | (go_at_call 63; refine (spec_l01Within_any A n c rs _ 0 1000 _ HL.out (by omega) HX1.out).mono ?_; rw [HW1.out]; rintro e w' ⟨rfl, rfl⟩))
  clear q1 q2
  have HS := Lib.hid (show Blk (((w.alloc (.cells #[.int .i64 0, .slice none 0 0] 26)).alloc (.cells #[.int .i64 l] 2)).alloc (.cells #[.int .i64 f, .slice (some ⟨w.heap.size + 1, 0, none⟩) 1 1] 26)) (w.heap.size + 1 + 1) 26 #[.int .i64 f, .slice (some ⟨w.heap.size + 1, 0, none⟩) 1 1] ∧ Res (w.heap.size + 1) (((w.alloc (.cells #[.int .i64 0, .slice none 0 0] 26)).alloc (.cells #[.int .i64 l] 2)).alloc (.cells #[.int .i64 f, .slice (some ⟨w.heap.size + 1, 0, none⟩) 1 1] 26)) 2 1 (some ⟨w.heap.size + 1, 0, none⟩) 1 1 (intRows [l]) ∧ Blk (((w.alloc (.cells #[.int .i64 0, .slice none 0 0] 26)).alloc (.cells #[.int .i64 l] 2)).alloc (.cells #[.int .i64 f, .slice (some ⟨w.heap.size + 1, 0, none⟩) 1 1] 26)) (w.heap.size) 26 #[.int .i64 0, .slice none 0 0] ∧ Below w.heap.size w (((w.alloc (.cells #[.int .i64 0, .slice none 0 0] 26)).alloc (.cells #[.int .i64 l] 2)).alloc (.cells #[.int .i64 f, .slice (some ⟨w.heap.size + 1, 0, none⟩) 1 1] 26)) ∧ Rd (((w.alloc (.cells #[.int .i64 0, .slice none 0 0] 26)).alloc (.cells #[.int .i64 l] 2)).alloc (.cells #[.int .i64 f, .slice (some ⟨w.heap.size + 1, 0, none⟩) 1 1] 26)) w.heap.size A 1 (intRows rs) from by
    refine ⟨by have h := Blk.new ((w.alloc (.cells #[.int .i64 0, .slice none 0 0] 26)).alloc (.cells #[.int .i64 l] 2)) 26 #[.int .i64 f, .slice (some ⟨w.heap.size + 1, 0, none⟩) 1 1]; simpa using h, ?_, (((Blk.new w 26 #[.int .i64 0, .slice none 0 0]).alloc _).alloc _), ((hbw.alloc (by simp) _).alloc (by simp <;> omega) _), ?_⟩
    · have h := (Res.new1 (w := (w.alloc (.cells #[.int .i64 0, .slice none 0 0] 26))) (B := w.heap.size + 1) 2 (.int .i64 l) (by simp)).alloc (.cells #[.int .i64 f, .slice (some ⟨w.heap.size + 1, 0, none⟩) 1 1] 26)
      simpa [intRows] using h
    · exact HX0.out.below ((hbw.alloc (by simp) _).alloc (by simp <;> omega) _))
  generalize (((w.alloc (.cells #[.int .i64 0, .slice none 0 0] 26)).alloc (.cells #[.int .i64 l] 2)).alloc (.cells #[.int .i64 f, .slice (some ⟨w.heap.size + 1, 0, none⟩) 1 1] 26)) = W at HS ⊢
  obtain ⟨h1, h2, h3, h4, h5⟩ := HS.out
  have H1 := Lib.hid h1; have H2 := Lib.hid h2; have H3 := Lib.hid h3; have H4 := Lib.hid h4
  clear h1 h2 h3 h4 h5 HS hbw HX1 HW1 HA
  go_loopw [1, 9] (fun li i wr => ∃ (k : Nat) (v : Int) (A' : Option Addr) (j c' : Nat) (ls : List Int), k ≤ n ∧ i = .int .i64 k ∧ li = .int .i64 v ∧ (0 ≤ v ∧ v ≤ 20000) ∧ (1 ≤ j ∧ j ≤ k + 1) ∧ Hid (Blk wr (w.heap.size + 1 + 1) 26 #[.int .i64 f, .slice A' j c']) ∧ Hid (Res (w.heap.size + 1) wr 2 1 A' j c' (intRows ls)) ∧ Hid (blkOf A' ≠ some (w.heap.size + 1 + 1)) ∧ Hid (∀ x ∈ ls, 0 ≤ x ∧ x ≤ 20000) ∧ Hid (Blk wr (w.heap.size) 26 #[.int .i64 0, .slice none 0 0]) ∧ Hid (Below w.heap.size w wr)) (fun _ i _ => n - (intOf i).toNat)
  case atStart => exact ⟨0, l, _, 1, 1, [l], by omega, rfl, rfl, by omega, by omega, H1, H2, Lib.hid (by simp [blkOf]), Lib.hid (by intro x hx; simp at hx; omega), H3, H4⟩
  case round =>
    obtain ⟨k, v, A', j, c', ls, hk, rfl, rfl, ⟨v0, v1⟩, ⟨j0, j1⟩, HO, HRs, HNE, HLS, HZ, HB⟩ := hrel
    have b0 : wr.cell? ⟨w.heap.size + 1 + 1, 1, none⟩ = some (.slice A' j c') := HO.out.cell 1
    by_cases hlt : k < n ∧ 0 < v
    · obtain ⟨hlt, hv⟩ := hlt
      obtain ⟨x, hx⟩ := get_of_lt (xs := rs) (k := k) (by rw [HL.out]; exact hlt)
      obtain ⟨⟨u0, u1⟩, u2, u3⟩ := up_part ⟨v0, v1⟩ (HR.out x (List.mem_of_getElem? hx))
      obtain ⟨ad, rfl, had, hc⟩ := (HX0.out.below HB.out).int_at hx
      have hki : (k : Int) < (n : Int) := by omega
      clear hx
      have hsz : w.heap.size + 1 ≤ wr.heap.size := Nat.le_trans (by omega) (Nat.le_of_lt HO.out.lt)
      go_wp2_with (first | (go_at_call 95; refine (spec_l01Up_any (v * x) 1000 _ (by omega) (by omega) (by omega) (by omega)).mono ?_; rintro e w9 ⟨rfl, rfl⟩) | (at_builtin; refine wpList_append_row_at _ rfl _ _ _ rfl (w.heap.size + 1) 2 i0 _ 1 8 Tryz.underlying24 HI.out.1 HI.out.2.1 HI.out.2.2.1 HI.out.2.2.2 rfl (by decide) (by decide) A' j c' _ rfl HRs.out [.int .i64 _] _ rfl rfl (by simp [Value.oneCell']) (by omega) hsz ?_; intro A2 c2 w4 hR4 hb4 hk4 hA4; rw [← intRows_snoc] at hR4; have HR4 := Lib.hid hR4; clear hR4; have HO4 := Lib.hid (HO.out.kept hk4 (fun h => HNE.out h.symm)); have HZ4 := Lib.hid (HZ.out.below hb4 (by omega)); have HB4 := Lib.hid (HB.out.trans (hb4.mono (by omega))); have HNE4 : Hid (blkOf A2 ≠ some (w.heap.size + 1 + 1)) := Lib.hid (by rcases hA4 with h | h; exact (by rw [h]; exact HNE.out); exact (by have hlt := HO.out.lt; rw [h]; intro h9; injection h9 with h9; omega)); have z1 : w4.cell? ⟨w.heap.size + 1 + 1, 1, none⟩ = some (.slice A' j c') := HO4.out.cell 1; have z2 : w4.frozen? ⟨w.heap.size + 1 + 1, 1, none⟩ = false := HO4.out.frozen 1; clear hk4 hA4 hb4))
      have HO5 := Lib.hid (show Blk (w4.setCell ⟨w.heap.size + 1 + 1, 1, none⟩ (.slice A2 (j + 1) c2)) (w.heap.size + 1 + 1) 26 #[.int .i64 f, .slice A2 (j + 1) c2] by simpa using HO4.out.set_ 1 (.slice A2 (j + 1) c2))
      have HR5 := Lib.hid (HR4.out.keep (w' := (w4.setCell ⟨w.heap.size + 1 + 1, 1, none⟩ (.slice A2 (j + 1) c2))) fun g' hg' => Below.heap_setCell _ _ _ _ (fun h => HNE4.out (by rw [hg']; exact congrArg some h)))
      have HZ5 := Lib.hid (HZ4.out.far (p := ⟨w.heap.size + 1 + 1, 1, none⟩) (by show w.heap.size ≠ w.heap.size + 1 + 1; omega) (.slice A2 (j + 1) c2))
      have HB5 := Lib.hid (HB4.out.setCell (p := ⟨w.heap.size + 1 + 1, 1, none⟩) (by show w.heap.size ≤ w.heap.size + 1 + 1; omega) (.slice A2 (j + 1) c2))
      go_roundw
      case rel => exact ⟨k + 1, v - ceilDiv (v * x) 1000, A2, j + 1, c2, ls ++ [v - ceilDiv (v * x) 1000], by omega, by go_num, rfl, by omega, by omega, HO5, HR5, HNE4, Lib.hid (ints_snoc HLS.out (by omega)), HZ5, HB5⟩
      case measure => simp [intOf]; omega
    · have hsz : w.heap.size + 1 ≤ wr.heap.size := Nat.le_trans (by omega) (Nat.le_of_lt HO.out.lt)
      by_cases hv : 0 < v
      · have hkn : k = n := by omega
        subst hkn
        clear hlt
        go_upto_region 11 with (at_builtin; refine wpList_append_row_at _ rfl _ _ _ rfl (w.heap.size + 1) 2 i0 _ 1 8 Tryz.underlying24 HI.out.1 HI.out.2.1 HI.out.2.2.1 HI.out.2.2.2 rfl (by decide) (by decide) A' j c' _ rfl HRs.out [.int .i64 _] _ rfl rfl (by simp [Value.oneCell']) (by omega) hsz ?_; intro A2 c2 w4 hR4 hb4 hk4 hA4; rw [← intRows_snoc] at hR4; have HR4 := Lib.hid hR4; clear hR4; have HO4 := Lib.hid (HO.out.kept hk4 (fun h => HNE.out h.symm)); have HZ4 := Lib.hid (HZ.out.below hb4 (by omega)); have HB4 := Lib.hid (HB.out.trans (hb4.mono (by omega))); have HNE4 : Hid (blkOf A2 ≠ some (w.heap.size + 1 + 1)) := Lib.hid (by rcases hA4 with h | h; exact (by rw [h]; exact HNE.out); exact (by have hlt := HO.out.lt; rw [h]; intro h9; injection h9 with h9; omega)); have z1 : w4.cell? ⟨w.heap.size + 1 + 1, 1, none⟩ = some (.slice A' j c') := HO4.out.cell 1; have z2 : w4.frozen? ⟨w.heap.size + 1 + 1, 1, none⟩ = false := HO4.out.frozen 1; clear hk4 hA4 hb4)
        have HO5 := Lib.hid (show Blk (w4.setCell ⟨w.heap.size + 1 + 1, 1, none⟩ (.slice A2 (j + 1) c2)) (w.heap.size + 1 + 1) 26 #[.int .i64 f, .slice A2 (j + 1) c2] by simpa using HO4.out.set_ 1 (.slice A2 (j + 1) c2))
        have HR5 := Lib.hid (HR4.out.keep (w' := (w4.setCell ⟨w.heap.size + 1 + 1, 1, none⟩ (.slice A2 (j + 1) c2))) fun g' hg' => Below.heap_setCell _ _ _ _ (fun h => HNE4.out (by rw [hg']; exact congrArg some h)))
        have HZ5 := Lib.hid (HZ4.out.far (p := ⟨w.heap.size + 1 + 1, 1, none⟩) (by show w.heap.size ≠ w.heap.size + 1 + 1; omega) (.slice A2 (j + 1) c2))
        have HB5 := Lib.hid (HB4.out.setCell (p := ⟨w.heap.size + 1 + 1, 1, none⟩) (by show w.heap.size ≤ w.heap.size + 1 + 1; omega) (.slice A2 (j + 1) c2))
        generalize (w4.setCell ⟨w.heap.size + 1 + 1, 1, none⟩ (.slice A2 (j + 1) c2)) = w5 at HO5 HR5 HZ5 HB5 ⊢
        have hcO := Lib.hid (Blk.agg (cs := [.int .i64 f, .slice A2 (j + 1) c2]) HO5.out 0 [.int .i64 f, .slice A2 (j + 1) c2] rfl)
        have H1' : Hid (∀ v ∈ ([.int .i64 f, .slice A2 (j + 1) c2] : List Value), v.oneCell' = true) := Lib.hid (by simp [Value.oneCell'])
        go_wp2_with (first | (refine wpList_load_agg rfl 26 _ rfl ⟨w.heap.size + 1 + 1, 0, none⟩ rfl [.int .i64 f, .slice A2 (j + 1) c2] hcO.out _ Tryz.underlying26 rfl Tab.size ?_) | (refine wpList_store_agg rfl 26 _ _ rfl (w.heap.size) 0 [.int .i64 f, .slice A2 (j + 1) c2] rfl rfl 26 #[.int .i64 0, .slice none 0 0] HZ5.out Tab.size (by simp) H1'.out ?_))
        intro w6 hR6 hg6 _
        have hR6' : Blk w6 (w.heap.size) 26 #[.int .i64 f, .slice A2 (j + 1) c2] := hR6
        have r0 : w6.cell? ⟨w.heap.size, 0, none⟩ = some (.int .i64 f) := hR6'.cell 0
        have r1 : w6.cell? ⟨w.heap.size, 1, none⟩ = some (.slice A2 (j + 1) c2) := hR6'.cell 1
        go_wp2
        refine bodyPost_ret (v := .tuple #[.agg #[.int .i64 f, .slice A2 (j + 1) c2], .int .i64 0]) (by simp [results, Tryz.results101, go_sem, r0, r1]) rfl ?_
        exact ⟨_, _, _, rfl, ⟨ls ++ [0], (HR5.out.keep fun g' hg' => hg6.block g' (HR5.out.lt hg').2 (fun e => by injection e with e; have := (HR5.out.lt hg').1; omega)).more (by omega), ints_snoc HLS.out (by omega)⟩, by omega, HB5.out.grown hg6 (Nat.le_of_lt HZ5.out.lt) (fun k hk => by injection hk with hk; omega)⟩
      · have hv0 : v = 0 := by omega
        subst hv0
        clear hlt hv
        by_cases hkn : k < n
        · have hki : (k : Int) < (n : Int) := by omega
          have hcO := Lib.hid (Blk.agg (cs := [.int .i64 f, .slice A' j c']) HO.out 0 [.int .i64 f, .slice A' j c'] rfl)
          have H1' : Hid (∀ v ∈ ([.int .i64 f, .slice A' j c'] : List Value), v.oneCell' = true) := Lib.hid (by simp [Value.oneCell'])
          go_wp2_with (first | (refine wpList_load_agg rfl 26 _ rfl ⟨w.heap.size + 1 + 1, 0, none⟩ rfl [.int .i64 f, .slice A' j c'] hcO.out _ Tryz.underlying26 rfl Tab.size ?_) | (refine wpList_store_agg rfl 26 _ _ rfl (w.heap.size) 0 [.int .i64 f, .slice A' j c'] rfl rfl 26 #[.int .i64 0, .slice none 0 0] HZ.out Tab.size (by simp) H1'.out ?_))
          intro w6 hR6 hg6 _
          have hR6' : Blk w6 (w.heap.size) 26 #[.int .i64 f, .slice A' j c'] := hR6
          have r0 : w6.cell? ⟨w.heap.size, 0, none⟩ = some (.int .i64 f) := hR6'.cell 0
          have r1 : w6.cell? ⟨w.heap.size, 1, none⟩ = some (.slice A' j c') := hR6'.cell 1
          go_wp2
          refine bodyPost_ret (v := .tuple #[.agg #[.int .i64 f, .slice A' j c'], .int .i64 0]) (by simp [results, Tryz.results101, go_sem, r0, r1]) rfl ?_
          exact ⟨_, _, _, rfl, ⟨ls, (HRs.out.keep fun g' hg' => hg6.block g' (HRs.out.lt hg').2 (fun e => by injection e with e; have := (HRs.out.lt hg').1; omega)).more (by omega), HLS.out⟩, by omega, HB.out.grown hg6 (Nat.le_of_lt HZ.out.lt) (fun k hk => by injection hk with hk; omega)⟩
        · have hki : ¬ (k : Int) < (n : Int) := by omega
          have hcO := Lib.hid (Blk.agg (cs := [.int .i64 f, .slice A' j c']) HO.out 0 [.int .i64 f, .slice A' j c'] rfl)
          have H1' : Hid (∀ v ∈ ([.int .i64 f, .slice A' j c'] : List Value), v.oneCell' = true) := Lib.hid (by simp [Value.oneCell'])
          go_wp2_with (first | (refine wpList_load_agg rfl 26 _ rfl ⟨w.heap.size + 1 + 1, 0, none⟩ rfl [.int .i64 f, .slice A' j c'] hcO.out _ Tryz.underlying26 rfl Tab.size ?_) | (refine wpList_store_agg rfl 26 _ _ rfl (w.heap.size) 0 [.int .i64 f, .slice A' j c'] rfl rfl 26 #[.int .i64 0, .slice none 0 0] HZ.out Tab.size (by simp) H1'.out ?_))
          intro w6 hR6 hg6 _
          have hR6' : Blk w6 (w.heap.size) 26 #[.int .i64 f, .slice A' j c'] := hR6
          have r0 : w6.cell? ⟨w.heap.size, 0, none⟩ = some (.int .i64 f) := hR6'.cell 0
          have r1 : w6.cell? ⟨w.heap.size, 1, none⟩ = some (.slice A' j c') := hR6'.cell 1
          go_wp2
          refine bodyPost_ret (v := .tuple #[.agg #[.int .i64 f, .slice A' j c'], .int .i64 0]) (by simp [results, Tryz.results101, go_sem, r0, r1]) rfl ?_
          exact ⟨_, _, _, rfl, ⟨ls, (HRs.out.keep fun g' hg' => hg6.block g' (HRs.out.lt hg').2 (fun e => by injection e with e; have := (HRs.out.lt hg').1; omega)).more (by omega), HLS.out⟩, by omega, HB.out.grown hg6 (Nat.le_of_lt HZ.out.lt) (fun k hk => by injection hk with hk; omega)⟩
end Go.Proofs.YtkdfdbcpbgganaaGreatDoor
end

/- Draws of life tables: whatever is drawn, its lives are a list of its own, and nothing but the source turns. -/
section
namespace Go.Proofs.YtkdfdbcpbgganaaGreatDoor
open Go.RowKit Go.BigFrame

theorem IntsBy.more {B B' n c : Nat} {lo hi : Int} {w : World} {A : Option Addr} (h : IntsBy B w A n c lo hi) (hB : B' ≤ B) : IntsBy B' w A n c lo hi := by
  obtain ⟨xs, hR, hf⟩ := h
  exact ⟨xs, hR.more hB, hf⟩
theorem IntsBy.nx {K : Code} {g B n c : Nat} {lo hi : Int} {w w' : World} {A : Option Addr} (h : IntsBy B w A n c lo hi) (hT : Nx K g w w') (hB : g < B) : IntsBy B w' A n c lo hi := by
  obtain ⟨xs, hR, hf⟩ := h
  exact ⟨xs, hR.nx hT hB, hf⟩
theorem IntsBy.past {B n c : Nat} {lo hi : Int} {w w' : World} {A : Option Addr} (h : IntsBy B w A n c lo hi) (hb : Below w.heap.size w w') : IntsBy B w' A n c lo hi := by
  obtain ⟨xs, hR, hf⟩ := h
  exact ⟨xs, hR.past hb, hf⟩
theorem IntsBy.wide {B n c : Nat} {lo hi lo' hi' : Int} {w : World} {A : Option Addr} (h : IntsBy B w A n c lo hi) (h1 : lo' ≤ lo) (h2 : hi ≤ hi') : IntsBy B w A n c lo' hi' := by
  obtain ⟨xs, hR, hf⟩ := h
  exact ⟨xs, hR, fun x hx => by have := hf x hx; omega⟩
theorem ints_rd {B n c : Nat} {lo hi : Int} {w : World} {A : Option Addr} (h : IntsBy B w A n c lo hi) : ∃ xs : List Int, xs.length = n ∧ Rd w w.heap.size A 1 (intRows xs) ∧ ∀ x ∈ xs, lo ≤ x ∧ x ≤ hi := by
  obtain ⟨xs, hR, hf⟩ := h
  exact ⟨xs, by have := hR.len; simpa [intRows] using this, hR.rd, hf⟩
/-- one number of an own list is written -/
theorem IntsBy.put {B n c k : Nat} {lo hi : Int} {w : World} {A : Option Addr} (h : IntsBy B w A n c lo hi) (hk : k < n) :
    ∃ g, A = some ⟨g, 0, none⟩ ∧ B ≤ g ∧ g < w.heap.size ∧ (∃ x : Int, w.cell? ⟨g, k, none⟩ = some (.int .i64 x)) ∧ w.frozen? ⟨g, k, none⟩ = false ∧ ∀ v : Int, lo ≤ v ∧ v ≤ hi → IntsBy B (w.setCell ⟨g, k, none⟩ (.int .i64 v)) A n c lo hi := by
  obtain ⟨xs, hR, hf⟩ := h
  have hl : xs.length = n := by have := hR.len; simpa [intRows] using this
  obtain ⟨x, hx⟩ := get_of_lt (xs := xs) (k := k) (by omega)
  obtain ⟨g, hg, hg1, hg2, hc, hz, hp⟩ := hR.putInt hx
  refine ⟨g, hg, hg1, hg2, ⟨x, hc⟩, hz, fun v hv => ⟨_, hp v, fun y hy => ?_⟩⟩
  rcases List.mem_or_eq_of_mem_set hy with h9 | h9
  · exact hf y h9
  · rw [h9]; exact hv

theorem IntsBy.lt {B n c b : Nat} {lo hi : Int} {w : World} {A : Option Addr} (h : IntsBy B w A n c lo hi) (hA : A = some ⟨b, 0, none⟩) : B ≤ b ∧ b < w.heap.size := by
  obtain ⟨xs, hR, _⟩ := h
  exact hR.lt hA
theorem IntsBy.at_ {B n c b k : Nat} {lo hi : Int} {w : World} (h : IntsBy B w (some ⟨b, 0, none⟩) n c lo hi) (hk : k < n) :
    (∃ x : Int, w.cell? ⟨b, k, none⟩ = some (.int .i64 x)) ∧ w.frozen? ⟨b, k, none⟩ = false ∧ ∀ v : Int, lo ≤ v ∧ v ≤ hi → IntsBy B (w.setCell ⟨b, k, none⟩ (.int .i64 v)) (some ⟨b, 0, none⟩) n c lo hi := by
  obtain ⟨g, hg, _, _, h1, h2, h3⟩ := h.put hk
  injection hg with hg; injection hg with hg
  subst hg
  exact ⟨h1, h2, h3⟩
theorem IntsBy.far {B n c b : Nat} {lo hi : Int} {w : World} (h : IntsBy B w (some ⟨b, 0, none⟩) n c lo hi) {p : Addr} (hne : b ≠ p.block) (v : Value) : IntsBy B (w.setCell p v) (some ⟨b, 0, none⟩) n c lo hi := by
  obtain ⟨xs, hR, hf⟩ := h
  exact ⟨xs, hR.keep fun g hg => Below.heap_setCell _ _ _ _ (by injection hg with hg; injection hg with hg; omega), hf⟩

set_option maxRecDepth 100000 in
set_option maxHeartbeats 4000000 in
theorem spec_l03Draw_any (K : Code) (hK : K.Ok) (g : Nat) (w0 : World) (w : World) (hT : Nx K g w0 w) :
    Calls Tryz.prog 64 #[.pointer (some ⟨g, 0, none⟩)] w fun e w' => ∃ (f : Int) (A' : Option Addr) (n' c' : Nat), e = .returned (.agg #[.int .i64 f, .slice A' n' c']) ∧ IntsBy w0.heap.size w' A' n' c' 0 1000001 ∧ (1 ≤ n' ∧ n' ≤ 30) ∧ (-1 ≤ f ∧ f ≤ 101) ∧ Nx K g w0 w' := by
  have HT0 := Lib.hid hT
  have hgw := hT.src.lt
  have hOw := (Nx.refl hT.src).alloc (.cells #[.int .i64 0, .slice none 0 0] 26)
  have HZ0 := Lib.hid (Blk.new w 26 #[.int .i64 0, .slice none 0 0])
  clear hT
  have hT := Nx.refl hOw.src
  go_enter Tryz.func64, Tryz.ntmps64
  have HSZ := Lib.hid (show w.heap.size + 1 = (w.alloc (.cells #[.int .i64 0, .slice none 0 0] 26)).heap.size by simp)
  go_wp2_with fail
  rw [HSZ.out]
  generalize w.alloc (.cells #[.int .i64 0, .slice none 0 0] 26) = Wa at hT hOw HZ0 HSZ ⊢
  go_upto_region 2 with (first | (go_at_call 32; refine (spec_l01Next_any K hK g _ _ _ (Nx.refl (Nx.src (by first | exact hT | exact hT.alloc _ | exact (hT.alloc _).alloc _ | exact hT.drew)))).mono ?_; rintro e w3 ⟨x, rfl, ⟨hx0, hx1⟩, hN⟩; have hT := Nx.trans (by first | exact hT | exact hT.alloc _ | exact (hT.alloc _).alloc _ | exact hT.drew) hN) | (go_at_call 33; refine (spec_l01Pick_new K hK g _ _ _ _ (by first | exact hT | exact hT.alloc _ | exact (hT.alloc _).alloc _ | exact hT.drew) (by rfl) (by decide) (by decide) (by rfl)).mono ?_; rintro e w3 ⟨x, rfl, hx, hT⟩; simp only [OneOf, Value.int.injEq, true_and, or_false] at hx) | ((go_at_call 102; refine (spec_l03DrawRates_any K hK g _ _ (by first | exact hT | exact hT.alloc _ | exact (hT.alloc _).alloc _ | exact hT.drew) ).mono ?_; rintro e w3 ⟨A1, n1, c1, rfl, hE, hn1, hT⟩); have hO := hT; have hT := Nx.refl hT.src) | (go_at_call 101; obtain ⟨rs, hrl, hrd, hrs⟩ := ints_rd hE; refine (MakeTable_draw _ _ A1 n1 c1 rs _ (by omega) (by omega) hrl hn1 hrd hrs).mono ?_; rintro e w4 ⟨A2, n2, c2, rfl, hE2, hn2, hb4⟩; have hT := Nx.past (by first | exact hT) hb4))
  rename_i fv hTa hxf va ya hTb vb hTc hTd hTe _ _ _ _
  have hf : 0 ≤ fv ∧ fv ≤ 50 := by omega
  have hE2 := hE2.wide (lo' := 0) (hi' := 1000001) (by omega) (by omega)
  obtain ⟨gA, hA, hA1, hA2, _⟩ := hE2.put (k := 0) (by omega)
  subst hA
  have hO2 := (hO.trans hT).alloc (.cells #[.int .i64 fv, .slice (some ⟨gA, 0, none⟩) n2 c2] 26)
  have HBX := Blk.new w4 26 #[.int .i64 fv, .slice (some ⟨gA, 0, none⟩) n2 c2]
  have hE3 := hE2.past ((Below.refl w4.heap.size w4).alloc (Nat.le_refl _) (.cells #[.int .i64 fv, .slice (some ⟨gA, 0, none⟩) n2 c2] 26))
  have hgb : g < w4.heap.size := hT.src.lt
  have hg3 : g < w3.heap.size := hO.src.lt
  have h3a : Wa.heap.size ≤ w3.heap.size := hO.size
  have hT := Nx.refl hO2.src
  clear hTa hTb hTc hTd hTe hN hb4 hE hE2 hrd
  generalize w4.alloc (.cells #[.int .i64 fv, .slice (some ⟨gA, 0, none⟩) n2 c2] 26) = Wc at hO2 HBX hE3 hT ⊢
  generalize w4.heap.size = Gb at HBX hA2 hgb ⊢
  have HA := Lib.hid (And.intro hA1 hA2); clear hA1 hA2
  have HE3 := Lib.hid hE3; clear hE3
  have HO2 := Lib.hid hO2; clear hO2 hO
  have HBX := Lib.hid HBX
  have hWc : Wa.heap.size ≤ Wc.heap.size := HO2.out.size
  have hza : w.heap.size < Wa.heap.size := HZ0.out.lt
  have hneg : w.heap.size ≠ g := by omega
  have hn21 : n2 - 1 < n2 := by omega
  go_upto_region 9 with (first | ((go_at_call 32; refine (spec_l01Next_any K hK g _ _ _ (Nx.refl (Nx.src (by first | exact hT | exact hT.alloc _ | exact (hT.alloc _).alloc _ | exact hT.drew)))).mono ?_; rintro e w3 ⟨x, rfl, ⟨hx0, hx1⟩, hN⟩; have hT := Nx.trans (by first | exact hT | exact hT.alloc _ | exact (hT.alloc _).alloc _ | exact hT.drew) hN); have hB3 := HBX.out.nx hT (Nat.ne_of_gt hgb); have b0 : w3.cell? ⟨Gb, 0, none⟩ = some (.int .i64 fv) := hB3.cell 0; have b1 : w3.cell? ⟨Gb, 1, none⟩ = some (.slice (some ⟨gA, 0, none⟩) n2 c2) := hB3.cell 1; have z0 : w3.frozen? ⟨Gb, 0, none⟩ = false := hB3.frozen 0; obtain ⟨⟨y1, e1⟩, z1, hp1⟩ := (HE3.out.nx hT hg3).at_ hn21) | ((go_at_call 33; refine (spec_l01Pick_new K hK g _ _ _ _ (by first | exact hT | exact hT.alloc _ | exact (hT.alloc _).alloc _ | exact hT.drew) (by rfl) (by decide) (by decide) (by rfl)).mono ?_; rintro e w3 ⟨x, rfl, hx, hT⟩; simp only [OneOf, Value.int.injEq, true_and, or_false] at hx); have hB3 := HBX.out.nx hT (Nat.ne_of_gt hgb); have b0 : w3.cell? ⟨Gb, 0, none⟩ = some (.int .i64 fv) := hB3.cell 0; have z0 : w3.frozen? ⟨Gb, 0, none⟩ = false := hB3.frozen 0))
  · have HD := Lib.hid hT.drew
    have HD2 := Lib.hid ((hT.alloc (.cells #[.int .i64 0, .int .i64 1000000, .int .i64 1000001] 2)).drew)
    have HD3 := Lib.hid (hT.alloc (.cells #[.int .i64 0, .int .i64 1000000, .int .i64 1000001] 2))
    have HBL := Lib.hid ((Blk.new w3 2 #[.int .i64 0, .int .i64 1000000, .int .i64 1000001]).drew)
    have HGL := Lib.hid hT.src.lt
    have HS5 := Lib.hid (fun w' (h : Nx K g Wc w') => (show Nx K g Wa w' ∧ w'.cell? ⟨Gb, 1, none⟩ = some (.slice (some ⟨gA, 0, none⟩) n2 c2) from ⟨HO2.out.trans h, (HBX.out.nx h (Nat.ne_of_gt hgb)).cell 1⟩))
    have HS6 := Lib.hid (fun w' (x : Int) (h : Nx K g Wc w') => (show Nx K g Wa (w'.setCell ⟨gA, 0, none⟩ (.int .i64 x)) ∧ (w'.setCell ⟨gA, 0, none⟩ (.int .i64 x)).cell? ⟨Gb, 1, none⟩ = some (.slice (some ⟨gA, 0, none⟩) n2 c2) from by
      obtain ⟨hA1, hA2⟩ := HA.out
      exact ⟨(HO2.out.trans h).kept (B := Wa.heap.size) (by omega) (Nat.le_refl _) ((Below.refl _ _).setCell (p := ⟨gA, 0, none⟩) (by show Wa.heap.size ≤ gA; omega) _), ((HBX.out.nx h (Nat.ne_of_gt hgb)).far (p := ⟨gA, 0, none⟩) (by show Gb ≠ gA; omega) _).cell 1⟩))
    have hn0 : (0 : Int) < (n2 : Int) := by omega
    have hn0' : 0 < n2 := by omega
    clear b0 b1 z0 e1 z1 hp1 hB3
    go_region_held3 (fun w' => Nx K g Wa w' ∧ w'.cell? ⟨Gb, 1, none⟩ = some (.slice (some ⟨gA, 0, none⟩) n2 c2)) (first | exact HS6.out _ _ HP.out | exact HS5.out _ HP.out | exact HS5.out _ HD2.out | exact HS5.out _ HD3.out | exact HS5.out _ HD.out) (first | (go_at_call 33; refine (spec_l01Pick_any K hK g _ w3.heap.size [.int .i64 0, .int .i64 1000000, .int .i64 1000001] 3 _ HD2.out HBL.out HGL.out rfl (by decide) (by decide) rfl).mono ?_; rintro e w5 ⟨xp, rfl, hxp, hT5⟩; simp only [OneOf, Value.int.injEq, true_and, or_false] at hxp; have HP := Lib.hid hT5; obtain ⟨⟨y0, e0⟩, zz0, hp0⟩ := (HE3.out.nx hT5 hg3).at_ (k := 0) (by omega)))
    obtain ⟨hA1, hA2⟩ := HA.out
    have hZW := ((HZ0.out.nx (HO2.out.trans HP.out) hneg).far (p := ⟨gA, 0, none⟩) (by show w.heap.size ≠ gA; omega) (.int .i64 xp))
    have hNW := ((hOw.trans (HO2.out.trans HP.out)).kept hgw (Nat.le_refl _) ((Below.refl _ _).setCell (p := ⟨gA, 0, none⟩) (by show w.heap.size ≤ gA; omega) (.int .i64 xp)))
    have hBW := ((HBX.out.nx HP.out (Nat.ne_of_gt hgb)).far (p := ⟨gA, 0, none⟩) (by show Gb ≠ gA; omega) (.int .i64 xp))
    have hEW := hp0 xp (by omega)
    have hcO := Lib.hid (Blk.agg (cs := [.int .i64 fv, .slice (some ⟨gA, 0, none⟩) n2 c2]) hBW 0 [.int .i64 fv, .slice (some ⟨gA, 0, none⟩) n2 c2] rfl)
    have H1 : Hid (∀ v ∈ ([.int .i64 fv, .slice (some ⟨gA, 0, none⟩) n2 c2] : List Value), v.oneCell' = true) := Lib.hid (by simp [Value.oneCell'])
    have HEW := Lib.hid hEW; have HNW := Lib.hid hNW
    clear hEW hNW hBW
    go_wp2_with (first | (refine wpList_load_agg rfl 26 _ rfl ⟨Gb, 0, none⟩ rfl [.int .i64 fv, .slice (some ⟨gA, 0, none⟩) n2 c2] hcO.out _ Tryz.underlying26 rfl Tab.size ?_) | (refine wpList_store_agg rfl 26 _ _ rfl (w.heap.size) 0 [.int .i64 fv, .slice (some ⟨gA, 0, none⟩) n2 c2] rfl rfl 26 #[.int .i64 0, .slice none 0 0] hZW Tab.size (by simp) H1.out ?_))
    intro w6 hR6 hg6 _
    have hR6' : Blk w6 (w.heap.size) 26 #[.int .i64 fv, .slice (some ⟨gA, 0, none⟩) n2 c2] := hR6
    have r0 : w6.cell? ⟨w.heap.size, 0, none⟩ = some (.int .i64 (fv)) := hR6'.cell 0
    have r1 : w6.cell? ⟨w.heap.size, 1, none⟩ = some (.slice (some ⟨gA, 0, none⟩) n2 c2) := hR6'.cell 1
    go_wp2
    refine bodyPost_ret (v := .agg #[.int .i64 fv, .slice (some ⟨gA, 0, none⟩) n2 c2]) (by simp [results, Tryz.results64, go_sem, r0, r1]) rfl ?_
    refine ⟨fv, some ⟨gA, 0, none⟩, n2, c2, rfl, ?_, hn2, by omega, HT0.out.trans (HNW.out.kept hgw (Nat.le_refl _) ((Below.refl _ _).grown hg6 (Nat.le_of_lt hZW.lt) (fun k hk => by injection hk with hk; omega)))⟩
    obtain ⟨xs, hRx, hfx⟩ := HEW.out
    exact ⟨xs, (hRx.keep fun g' hg' => hg6.block g' (hRx.lt hg').2 (fun e => by injection e with e; have := (hRx.lt hg').1; have := HSZ.out; omega)).more (by have := HT0.out.size; have := HSZ.out; omega), hfx⟩
  · obtain ⟨hA1, hA2⟩ := HA.out
    have hZW := ((HZ0.out.nx (HO2.out.trans hT) hneg).far (p := ⟨gA, n2 - 1, none⟩) (by show w.heap.size ≠ gA; omega) (.int .i64 1))
    have hNW := ((hOw.trans (HO2.out.trans hT)).kept hgw (Nat.le_refl _) ((Below.refl _ _).setCell (p := ⟨gA, n2 - 1, none⟩) (by show w.heap.size ≤ gA; omega) (.int .i64 1)))
    have hBW := ((HBX.out.nx hT (Nat.ne_of_gt hgb)).far (p := ⟨gA, n2 - 1, none⟩) (by show Gb ≠ gA; omega) (.int .i64 1))
    have hEW := (hp1 1 (by omega))
    have hcO := Lib.hid (Blk.agg (cs := [.int .i64 fv, .slice (some ⟨gA, 0, none⟩) n2 c2]) hBW 0 [.int .i64 fv, .slice (some ⟨gA, 0, none⟩) n2 c2] rfl)
    have H1 : Hid (∀ v ∈ ([.int .i64 fv, .slice (some ⟨gA, 0, none⟩) n2 c2] : List Value), v.oneCell' = true) := Lib.hid (by simp [Value.oneCell'])
    have HEW := Lib.hid hEW; have HNW := Lib.hid hNW
    clear hEW hNW hBW
    go_wp2_with (first | (refine wpList_load_agg rfl 26 _ rfl ⟨Gb, 0, none⟩ rfl [.int .i64 fv, .slice (some ⟨gA, 0, none⟩) n2 c2] hcO.out _ Tryz.underlying26 rfl Tab.size ?_) | (refine wpList_store_agg rfl 26 _ _ rfl (w.heap.size) 0 [.int .i64 fv, .slice (some ⟨gA, 0, none⟩) n2 c2] rfl rfl 26 #[.int .i64 0, .slice none 0 0] hZW Tab.size (by simp) H1.out ?_))
    intro w6 hR6 hg6 _
    have hR6' : Blk w6 (w.heap.size) 26 #[.int .i64 fv, .slice (some ⟨gA, 0, none⟩) n2 c2] := hR6
    have r0 : w6.cell? ⟨w.heap.size, 0, none⟩ = some (.int .i64 (fv)) := hR6'.cell 0
    have r1 : w6.cell? ⟨w.heap.size, 1, none⟩ = some (.slice (some ⟨gA, 0, none⟩) n2 c2) := hR6'.cell 1
    go_wp2
    refine bodyPost_ret (v := .agg #[.int .i64 fv, .slice (some ⟨gA, 0, none⟩) n2 c2]) (by simp [results, Tryz.results64, go_sem, r0, r1]) rfl ?_
    refine ⟨fv, some ⟨gA, 0, none⟩, n2, c2, rfl, ?_, hn2, by omega, HT0.out.trans (HNW.out.kept hgw (Nat.le_refl _) ((Below.refl _ _).grown hg6 (Nat.le_of_lt hZW.lt) (fun k hk => by injection hk with hk; omega)))⟩
    obtain ⟨xs, hRx, hfx⟩ := HEW.out
    exact ⟨xs, (hRx.keep fun g' hg' => hg6.block g' (hRx.lt hg').2 (fun e => by injection e with e; have := (hRx.lt hg').1; have := HSZ.out; omega)).more (by have := HT0.out.size; have := HSZ.out; omega), hfx⟩
  · have hB9 : Blk (w3.setCell ⟨Gb, 0, none⟩ (.int .i64 x)) Gb 26 #[.int .i64 x, .slice (some ⟨gA, 0, none⟩) n2 c2] := by simpa using hB3.set_ 0 (.int .i64 x)
    obtain ⟨hA1, hA2⟩ := HA.out
    have hZW := ((HZ0.out.nx (HO2.out.trans hT) hneg).far (p := ⟨Gb, 0, none⟩) (by show w.heap.size ≠ Gb; omega) (.int .i64 x))
    have hNW := ((hOw.trans (HO2.out.trans hT)).kept hgw (Nat.le_refl _) ((Below.refl _ _).setCell (p := ⟨Gb, 0, none⟩) (by show w.heap.size ≤ Gb; omega) (.int .i64 x)))
    have hBW := hB9
    have hEW := ((HE3.out.nx hT hg3).far (p := ⟨Gb, 0, none⟩) (by show gA ≠ Gb; omega) (.int .i64 x))
    have hcO := Lib.hid (Blk.agg (cs := [.int .i64 x, .slice (some ⟨gA, 0, none⟩) n2 c2]) hBW 0 [.int .i64 x, .slice (some ⟨gA, 0, none⟩) n2 c2] rfl)
    have H1 : Hid (∀ v ∈ ([.int .i64 x, .slice (some ⟨gA, 0, none⟩) n2 c2] : List Value), v.oneCell' = true) := Lib.hid (by simp [Value.oneCell'])
    have HEW := Lib.hid hEW; have HNW := Lib.hid hNW
    clear hEW hNW hBW
    go_wp2_with (first | (refine wpList_load_agg rfl 26 _ rfl ⟨Gb, 0, none⟩ rfl [.int .i64 x, .slice (some ⟨gA, 0, none⟩) n2 c2] hcO.out _ Tryz.underlying26 rfl Tab.size ?_) | (refine wpList_store_agg rfl 26 _ _ rfl (w.heap.size) 0 [.int .i64 x, .slice (some ⟨gA, 0, none⟩) n2 c2] rfl rfl 26 #[.int .i64 0, .slice none 0 0] hZW Tab.size (by simp) H1.out ?_))
    intro w6 hR6 hg6 _
    have hR6' : Blk w6 (w.heap.size) 26 #[.int .i64 x, .slice (some ⟨gA, 0, none⟩) n2 c2] := hR6
    have r0 : w6.cell? ⟨w.heap.size, 0, none⟩ = some (.int .i64 (x)) := hR6'.cell 0
    have r1 : w6.cell? ⟨w.heap.size, 1, none⟩ = some (.slice (some ⟨gA, 0, none⟩) n2 c2) := hR6'.cell 1
    go_wp2
    refine bodyPost_ret (v := .agg #[.int .i64 x, .slice (some ⟨gA, 0, none⟩) n2 c2]) (by simp [results, Tryz.results64, go_sem, r0, r1]) rfl ?_
    refine ⟨x, some ⟨gA, 0, none⟩, n2, c2, rfl, ?_, hn2, by omega, HT0.out.trans (HNW.out.kept hgw (Nat.le_refl _) ((Below.refl _ _).grown hg6 (Nat.le_of_lt hZW.lt) (fun k hk => by injection hk with hk; omega)))⟩
    obtain ⟨xs, hRx, hfx⟩ := HEW.out
    exact ⟨xs, (hRx.keep fun g' hg' => hg6.block g' (hRx.lt hg').2 (fun e => by injection e with e; have := (hRx.lt hg').1; have := HSZ.out; omega)).more (by have := HT0.out.size; have := HSZ.out; omega), hfx⟩
  · obtain ⟨hA1, hA2⟩ := HA.out
    have hZW := (HZ0.out.nx (HO2.out.trans hT) hneg)
    have hNW := (hOw.trans (HO2.out.trans hT))
    have hBW := hB3
    have hEW := (HE3.out.nx hT hg3)
    have hcO := Lib.hid (Blk.agg (cs := [.int .i64 fv, .slice (some ⟨gA, 0, none⟩) n2 c2]) hBW 0 [.int .i64 fv, .slice (some ⟨gA, 0, none⟩) n2 c2] rfl)
    have H1 : Hid (∀ v ∈ ([.int .i64 fv, .slice (some ⟨gA, 0, none⟩) n2 c2] : List Value), v.oneCell' = true) := Lib.hid (by simp [Value.oneCell'])
    have HEW := Lib.hid hEW; have HNW := Lib.hid hNW
    clear hEW hNW hBW
    go_wp2_with (first | (refine wpList_load_agg rfl 26 _ rfl ⟨Gb, 0, none⟩ rfl [.int .i64 fv, .slice (some ⟨gA, 0, none⟩) n2 c2] hcO.out _ Tryz.underlying26 rfl Tab.size ?_) | (refine wpList_store_agg rfl 26 _ _ rfl (w.heap.size) 0 [.int .i64 fv, .slice (some ⟨gA, 0, none⟩) n2 c2] rfl rfl 26 #[.int .i64 0, .slice none 0 0] hZW Tab.size (by simp) H1.out ?_))
    intro w6 hR6 hg6 _
    have hR6' : Blk w6 (w.heap.size) 26 #[.int .i64 fv, .slice (some ⟨gA, 0, none⟩) n2 c2] := hR6
    have r0 : w6.cell? ⟨w.heap.size, 0, none⟩ = some (.int .i64 (fv)) := hR6'.cell 0
    have r1 : w6.cell? ⟨w.heap.size, 1, none⟩ = some (.slice (some ⟨gA, 0, none⟩) n2 c2) := hR6'.cell 1
    go_wp2
    refine bodyPost_ret (v := .agg #[.int .i64 fv, .slice (some ⟨gA, 0, none⟩) n2 c2]) (by simp [results, Tryz.results64, go_sem, r0, r1]) rfl ?_
    refine ⟨fv, some ⟨gA, 0, none⟩, n2, c2, rfl, ?_, hn2, by omega, HT0.out.trans (HNW.out.kept hgw (Nat.le_refl _) ((Below.refl _ _).grown hg6 (Nat.le_of_lt hZW.lt) (fun k hk => by injection hk with hk; omega)))⟩
    obtain ⟨xs, hRx, hfx⟩ := HEW.out
    exact ⟨xs, (hRx.keep fun g' hg' => hg6.block g' (hRx.lt hg').2 (fun e => by injection e with e; have := (hRx.lt hg').1; have := HSZ.out; omega)).more (by have := HT0.out.size; have := HSZ.out; omega), hfx⟩
end Go.Proofs.YtkdfdbcpbgganaaGreatDoor
end

/- Draws of a life table and a rate, of an age of a life table. -/
section
namespace Go.Proofs.YtkdfdbcpbgganaaGreatDoor
open Go.RowKit Go.BigFrame

set_option maxRecDepth 100000 in
set_option maxHeartbeats 4000000 in
theorem spec_l05Draw_any (K : Code) (hK : K.Ok) (g : Nat) (w0 : World) (w : World) (hT : Nx K g w0 w) :
    Calls Tryz.prog 29 #[.pointer (some ⟨g, 0, none⟩)] w fun e w' => ∃ (f : Int) (A' : Option Addr) (n' c' : Nat) (r : Int), e = .returned (.tuple #[.agg #[.int .i64 f, .slice A' n' c'], .int .i64 r]) ∧ IntsBy w0.heap.size w' A' n' c' 0 1000001 ∧ (1 ≤ n' ∧ n' ≤ 30) ∧ (-1 ≤ f ∧ f ≤ 101) ∧ (-1 ≤ r ∧ r ≤ 201) ∧ Nx K g w0 w' := by
  have HT0 := Lib.hid hT
  have hgw := hT.src.lt
  have hOw := (Nx.refl hT.src).alloc (.cells #[.int .i64 0, .slice none 0 0] 26)
  have HZ0 := Lib.hid (Blk.new w 26 #[.int .i64 0, .slice none 0 0])
  clear hT
  have hT := Nx.refl hOw.src
  have HSZ := Lib.hid (show w.heap.size + 1 = (w.alloc (.cells #[.int .i64 0, .slice none 0 0] 26)).heap.size by simp)
  have hneg : w.heap.size ≠ g := by omega
  go_enter Tryz.func29, Tryz.ntmps29
  go_wp2_with fail
  generalize w.alloc (.cells #[.int .i64 0, .slice none 0 0] 26) = Wa at hT hOw HZ0 HSZ ⊢
  go_wp2_with (first | ((go_at_call 64; refine (spec_l03Draw_any K hK g _ _ (by first | exact hT | exact hT.alloc _ | exact (hT.alloc _).alloc _ | exact hT.drew) ).mono ?_; rintro e w3 ⟨f, A1, n1, c1, rfl, hE, hn1, hf1, hT⟩); have hO := hT; have hT := Nx.refl hT.src) | ((go_at_call 65; refine (spec_l04DrawRate_any K hK g _ _ (by first | exact hT | exact hT.alloc _ | exact (hT.alloc _).alloc _ | exact hT.drew) ).mono ?_; rintro e w3 ⟨r, rfl, hr, hT⟩); have HZ := Lib.hid (HZ0.out.nx (hO.trans hT) hneg); have H1 : Hid (∀ v ∈ ([.int .i64 f, .slice A1 n1 c1] : List Value), v.oneCell' = true) := Lib.hid (by simp [Value.oneCell'])) | (refine wpList_store_agg rfl 26 _ _ rfl (w.heap.size) 0 [.int .i64 f, .slice A1 n1 c1] rfl rfl 26 #[.int .i64 0, .slice none 0 0] HZ.out Tab.size (by simp) H1.out ?_))
  intro w6 hR6 hg6 _
  have hR6' : Blk w6 (w.heap.size) 26 #[.int .i64 f, .slice A1 n1 c1] := hR6
  have r0 : w6.cell? ⟨w.heap.size, 0, none⟩ = some (.int .i64 f) := hR6'.cell 0
  have r1 : w6.cell? ⟨w.heap.size, 1, none⟩ = some (.slice A1 n1 c1) := hR6'.cell 1
  go_wp2
  refine bodyPost_ret (v := .tuple #[.agg #[.int .i64 f, .slice A1 n1 c1], .int .i64 r]) (by simp [results, Tryz.results29, go_sem, r0, r1]) rfl ?_
  have hNW := hOw.trans (hO.trans hT)
  refine ⟨f, A1, n1, c1, r, rfl, ?_, hn1, hf1, hr, HT0.out.trans (hNW.kept hgw (Nat.le_refl _) ((Below.refl _ _).grown hg6 (Nat.le_of_lt HZ.out.lt) (fun k hk => by injection hk with hk; omega)))⟩
  have hga : g < Wa.heap.size := by have := HSZ.out; omega
  obtain ⟨xs, hRx, hfx⟩ := hE.nx hT hga
  exact ⟨xs, (hRx.keep fun g' hg' => hg6.block g' (hRx.lt hg').2 (fun e => by injection e with e; have := (hRx.lt hg').1; have := HSZ.out; omega)).more (by have := HT0.out.size; have := HSZ.out; omega), hfx⟩

set_option maxRecDepth 100000 in
set_option maxHeartbeats 4000000 in
theorem spec_l03DrawAge_any (K : Code) (hK : K.Ok) (g : Nat) (w0 : World) (w : World) (hT : Nx K g w0 w) (f : Int) (A : Option Addr) (n c : Nat) (hf : -1000 ≤ f ∧ f ≤ 1000) (hn : 1 ≤ n ∧ n ≤ 1000) :
    Calls Tryz.prog 30 #[.pointer (some ⟨g, 0, none⟩), .agg #[.int .i64 f, .slice A n c]] w fun e w' => ∃ x : Int, e = .returned (.int .i64 x) ∧ (-2000 ≤ x ∧ x ≤ 4000) ∧ Nx K g w0 w' := by
  have HT0 := Lib.hid hT
  have hOw := (Nx.refl hT.src).alloc (.cells #[.int .i64 f, .slice A n c] 26)
  have HB0 := Lib.hid (Blk.new w 26 #[.int .i64 f, .slice A n c])
  have hneg : w.heap.size ≠ g := by have := hT.src.lt; omega
  clear hT
  have hT := Nx.refl hOw.src
  obtain ⟨f0, f1⟩ := hf
  obtain ⟨n0, n1⟩ := hn
  go_enter Tryz.func30, Tryz.ntmps30
  go_wp2_with fail
  generalize w.alloc (.cells #[.int .i64 f, .slice A n c] 26) = Wa at hT hOw HB0 ⊢
  have HS := Lib.hid (fun w' (h : Nx K g Wa w') => (show Nx K g Wa w' ∧ w'.cell? ⟨w.heap.size, 0, none⟩ = some (.int .i64 f) ∧ w'.cell? ⟨w.heap.size, 1, none⟩ = some (.slice A n c) from ⟨h, (HB0.out.nx h hneg).cell 0, (HB0.out.nx h hneg).cell 1⟩))
  go_wp2_with (go_at_call 32; refine (spec_l01Next_any K hK g _ _ _ (Nx.refl (Nx.src (by first | exact hT | exact hT.alloc _ | exact (hT.alloc _).alloc _ | exact hT.drew)))).mono ?_; rintro e w3 ⟨x, rfl, ⟨hx0, hx1⟩, hN⟩; have hT := Nx.trans (by first | exact hT | exact hT.alloc _ | exact (hT.alloc _).alloc _ | exact hT.drew) hN)
  · have HD := Lib.hid hT.drew
    have hw1 : IntKind.i64.wrap (f - 1) = f - 1 := IntWalk.i64_in _ (by omega)
    have hw2 : IntKind.i64.wrap (f + (n : Int)) = f + (n : Int) := IntWalk.i64_in _ (by omega)
    go_region_held3 (fun w' => Nx K g Wa w' ∧ w'.cell? ⟨w.heap.size, 0, none⟩ = some (.int .i64 f) ∧ w'.cell? ⟨w.heap.size, 1, none⟩ = some (.slice A n c)) (first | exact HS.out _ HP.out | exact HS.out _ (HP.out.alloc _) | exact HS.out _ HD.out) (first | (go_at_call 66; refine (l03End_draw f A n c _ ⟨f0, f1⟩ n1).mono ?_; rintro e w5 ⟨rfl, hb5⟩; have HP := Lib.hid (Nx.past (by first | exact HP.out | exact HD.out) hb5)) | (go_at_call 33; refine (spec_l01Pick_new K hK g _ _ _ _ (by first | exact HP.out) (by rfl) (by decide) (by decide) (by rfl)).mono ?_; rintro e w5 ⟨xp, rfl, hxp, hT5⟩; simp only [OneOf, Value.int.injEq, true_and, or_false] at hxp; have HP := Lib.hid hT5))
    go_wp2
    go_ret
    exact ⟨_, rfl, by omega, HT0.out.trans (hOw.trans HP.out)⟩
  · have HD := Lib.hid hT.drew
    go_region_held3 (fun w' => Nx K g Wa w' ∧ w'.cell? ⟨w.heap.size, 0, none⟩ = some (.int .i64 f) ∧ w'.cell? ⟨w.heap.size, 1, none⟩ = some (.slice A n c)) (first | exact HS.out _ HP.out | exact HS.out _ HD.out) (first | (go_at_call 32; refine (spec_l01Next_any K hK g Wa _ _ HD.out).mono ?_; rintro e w5 ⟨x5, rfl, ⟨hx50, hx51⟩, hT5⟩; have HP := Lib.hid hT5))
    go_wp2
    go_ret
    exact ⟨_, rfl, by first | omega | (rw [IntWalk.i64_in _ (by omega)]; omega), HT0.out.trans (hOw.trans HP.out)⟩
end Go.Proofs.YtkdfdbcpbgganaaGreatDoor
end

/- Draws of the arguments of an assurance. -/
section
namespace Go.Proofs.YtkdfdbcpbgganaaGreatDoor
open Go.RowKit Go.BigFrame

set_option maxRecDepth 100000 in
set_option maxHeartbeats 8000000 in
theorem spec_l07Draw_any (K : Code) (hK : K.Ok) (g : Nat) (w0 : World) (w : World) (hT : Nx K g w0 w) :
    Calls Tryz.prog 85 #[.pointer (some ⟨g, 0, none⟩)] w fun e w' => ∃ (f : Int) (A' : Option Addr) (n' c' : Nat) (r kd ag yr : Int), e = .returned (.tuple #[.agg #[.int .i64 f, .slice A' n' c'], .int .i64 r, .int .i64 kd, .int .i64 ag, .int .i64 yr]) ∧ IntsBy w0.heap.size w' A' n' c' 0 1000001 ∧ (1 ≤ n' ∧ n' ≤ 30) ∧ (-1 ≤ f ∧ f ≤ 101) ∧ (-1 ≤ r ∧ r ≤ 201) ∧ (-1 ≤ kd ∧ kd ≤ 4) ∧ (-2000 ≤ ag ∧ ag ≤ 4000) ∧ (-1 ≤ yr ∧ yr ≤ 121) ∧ Nx K g w0 w' := by
  have HT0 := Lib.hid hT
  have hgw := hT.src.lt
  have hOw := (Nx.refl hT.src).alloc (.cells #[.int .i64 0, .slice none 0 0] 26)
  have HZ0 := Lib.hid (Blk.new w 26 #[.int .i64 0, .slice none 0 0])
  clear hT
  have hT := Nx.refl hOw.src
  have HSZ := Lib.hid (show w.heap.size + 1 = (w.alloc (.cells #[.int .i64 0, .slice none 0 0] 26)).heap.size by simp)
  have hneg : w.heap.size ≠ g := by omega
  go_enter Tryz.func85, Tryz.ntmps85
  go_wp2_with fail
  generalize w.alloc (.cells #[.int .i64 0, .slice none 0 0] 26) = Wa at hT hOw HZ0 HSZ ⊢
  go_upto_region 2 with ((go_at_call 29; refine (spec_l05Draw_any K hK g _ _ (by first | exact hT | exact hT.alloc _ | exact (hT.alloc _).alloc _ | exact hT.drew) ).mono ?_; rintro e w3 ⟨f, A1, n1, c1, r, rfl, hE, hn1, hf1, hr, hT⟩); have hO := hT; have hT := Nx.refl hT.src)
  have hO2 := hO.alloc (.cells #[.int .i64 f, .slice A1 n1 c1] 26)
  have HBX := Lib.hid (Blk.new w3 26 #[.int .i64 f, .slice A1 n1 c1])
  have HE3 := Lib.hid (hE.past ((Below.refl w3.heap.size w3).alloc (Nat.le_refl _) (.cells #[.int .i64 f, .slice A1 n1 c1] 26)))
  have hgb : g < w3.heap.size := hT.src.lt
  have hT := Nx.refl hO2.src
  have hza : w.heap.size < Wa.heap.size := HZ0.out.lt
  have hab : Wa.heap.size ≤ w3.heap.size := hO.size
  clear hE hO
  generalize w3.alloc (.cells #[.int .i64 f, .slice A1 n1 c1] 26) = Wc at hO2 HBX HE3 hT ⊢
  generalize w3.heap.size = Gb at HBX hgb hab ⊢
  have HO2 := Lib.hid hO2; clear hO2
  have hga : g < Wa.heap.size := by have := HSZ.out; omega
  obtain ⟨q0, q1⟩ := hn1
  obtain ⟨q2, q3⟩ := hf1
  have HS := Lib.hid (fun w' (h : Nx K g Wc w') => (show Nx K g w w' ∧ w'.cell? ⟨Gb, 0, none⟩ = some (.int .i64 f) ∧ w'.cell? ⟨Gb, 1, none⟩ = some (.slice A1 n1 c1) from ⟨hOw.trans (HO2.out.trans h), (HBX.out.nx h (Nat.ne_of_gt hgb)).cell 0, (HBX.out.nx h (Nat.ne_of_gt hgb)).cell 1⟩))
  have HS7 := Lib.hid (fun w' (h : Nx K g Wc w') => (show Nx K g w (((w').setCell ⟨w.heap.size, 0, none⟩ (.int .i64 f)).setCell ⟨w.heap.size, 1, none⟩ (.slice A1 n1 c1)) ∧ (((w').setCell ⟨w.heap.size, 0, none⟩ (.int .i64 f)).setCell ⟨w.heap.size, 1, none⟩ (.slice A1 n1 c1)).cell? ⟨Gb, 0, none⟩ = some (.int .i64 f) ∧ (((w').setCell ⟨w.heap.size, 0, none⟩ (.int .i64 f)).setCell ⟨w.heap.size, 1, none⟩ (.slice A1 n1 c1)).cell? ⟨Gb, 1, none⟩ = some (.slice A1 n1 c1) from by
    have hb := ((HBX.out.nx h (Nat.ne_of_gt hgb)).far (p := ⟨w.heap.size, 0, none⟩) (by show Gb ≠ w.heap.size; omega) (.int .i64 f)).far (p := ⟨w.heap.size, 1, none⟩) (by show Gb ≠ w.heap.size; omega) (.slice A1 n1 c1)
    exact ⟨(hOw.trans (HO2.out.trans h)).kept hgw (Nat.le_refl _) (((Below.refl _ _).setCell (p := ⟨w.heap.size, 0, none⟩) (Nat.le_refl _) _).setCell (p := ⟨w.heap.size, 1, none⟩) (Nat.le_refl _) _), hb.cell 0, hb.cell 1⟩))
  go_upto_region 11 with (first | (go_at_call 32; refine (spec_l01Next_any K hK g _ _ _ (Nx.refl (Nx.src (by first | exact hT | exact hT.alloc _ | exact (hT.alloc _).alloc _ | exact hT.drew)))).mono ?_; rintro e w3 ⟨x, rfl, ⟨hx0, hx1⟩, hN⟩; have hT := Nx.trans (by first | exact hT | exact hT.alloc _ | exact (hT.alloc _).alloc _ | exact hT.drew) hN) | (go_at_call 33; refine (spec_l01Pick_new K hK g _ _ _ _ (by first | exact hT | exact hT.alloc _ | exact (hT.alloc _).alloc _ | exact hT.drew) (by rfl) (by decide) (by decide) (by rfl)).mono ?_; rintro e w3 ⟨x, rfl, hx, hT⟩; simp only [OneOf, Value.int.injEq, true_and, or_false] at hx))
  all_goals
    have HD := Lib.hid hT.drew
    have HT9 := Lib.hid hT
    clear hT hN
    go_region_held3 (fun w' => Nx K g w w' ∧ w'.cell? ⟨Gb, 0, none⟩ = some (.int .i64 f) ∧ w'.cell? ⟨Gb, 1, none⟩ = some (.slice A1 n1 c1)) (first | exact HS7.out _ HP.out | exact HS.out _ HP.out | exact HS.out _ HD.out | exact HS.out _ HT9.out) (first | (go_at_call 30; refine (spec_l03DrawAge_any K hK g Wc _ HD.out f A1 n1 c1 ⟨by omega, by omega⟩ ⟨by omega, by omega⟩).mono ?_; rintro e w5 ⟨age, rfl, ⟨hage0, hage1⟩, hT5⟩; have HP := Lib.hid hT5; have hZ5 := HZ0.out.nx (HO2.out.trans hT5) hneg; have zc0 : w5.cell? ⟨w.heap.size, 0, none⟩ = some (.int .i64 0) := hZ5.cell 0; have zc1 : w5.cell? ⟨w.heap.size, 1, none⟩ = some (.slice none 0 0) := hZ5.cell 1; have zf0 : w5.frozen? ⟨w.heap.size, 0, none⟩ = false := hZ5.frozen 0; have zf1 : w5.frozen? ⟨w.heap.size, 1, none⟩ = false := hZ5.frozen 1))
  all_goals
    have HN9 := Lib.hid (HS7.out w5 HP.out).1
    have hK9 : Blk ((w5.setCell ⟨w.heap.size, 0, none⟩ (.int .i64 f)).setCell ⟨w.heap.size, 1, none⟩ (.slice A1 n1 c1)) (w.heap.size) 26 #[.int .i64 f, .slice A1 n1 c1] := by simpa using (hZ5.set_ 0 (.int .i64 f)).set_ 1 (.slice A1 n1 c1)
    have HE9 := Lib.hid (show IntsBy w0.heap.size ((w5.setCell ⟨w.heap.size, 0, none⟩ (.int .i64 f)).setCell ⟨w.heap.size, 1, none⟩ (.slice A1 n1 c1)) A1 n1 c1 0 1000001 from by
      obtain ⟨xs, hRx, hfx⟩ := HE3.out.nx HP.out hga
      refine ⟨xs, (hRx.keep fun g' hg' => ?_).more (by have := HT0.out.size; omega), hfx⟩
      have h9 := (hRx.lt hg').1
      exact (Below.heap_setCell _ _ _ _ (by show g' ≠ w.heap.size; omega)).trans (Below.heap_setCell _ _ _ _ (by show g' ≠ w.heap.size; omega)))
    clear zc0 zc1 zf0 zf1 hZ5
    generalize ((w5.setCell ⟨w.heap.size, 0, none⟩ (.int .i64 f)).setCell ⟨w.heap.size, 1, none⟩ (.slice A1 n1 c1)) = W6 at HN9 hK9 HE9 ⊢
    have r0 : W6.cell? ⟨w.heap.size, 0, none⟩ = some (.int .i64 f) := hK9.cell 0
    have r1 : W6.cell? ⟨w.heap.size, 1, none⟩ = some (.slice A1 n1 c1) := hK9.cell 1
    go_wp2
    refine bodyPost_ret (v := .tuple #[.agg #[.int .i64 f, .slice A1 n1 c1], .int .i64 _, .int .i64 _, .int .i64 _, .int .i64 _]) (by simp [results, Tryz.results85, go_sem, r0, r1]; exact ⟨rfl, rfl, rfl, rfl⟩) rfl ?_
    exact ⟨f, A1, n1, c1, _, _, _, _, rfl, HE9.out, ⟨q0, q1⟩, ⟨q2, q3⟩, by omega, by omega, by omega, by omega, HT0.out.trans HN9.out⟩
end Go.Proofs.YtkdfdbcpbgganaaGreatDoor
end
