/- Draws of life tables and of what hangs on them: whatever is drawn, it is a list of its own, and nothing but the source turns. -/
import Derived.Test.YtlbllonpodckgaaGreatDoorDrawA
import Derived.Test.YtlbllonpodckgaaGreatDoorLife2
import Derived.Lib.MinMax
import Derived.Test.YtlbllonpodckgaaGreatDoorLifeS
import Derived.Deep.Cut
import Derived.Deep.DeepCutAuto
import Derived.Test.YtlbllonpodckgaaGreatDoorWithin
import Derived.Test.YtlbllonpodckgaaGreatDoorApp2
import Derived.Test.YtlbllonpodckgaaGreatDoorPut
import Derived.Test.YtlbllonpodckgaaGreatDoorTail
namespace Go.Proofs.YtlbllonpodckgaaGreatDoor
open Go.RowKit Go.BigFrame
theorem Res.new1 {w : World} {B : Nat} (t : TypeId) (v : Value) (hB : B ≤ w.heap.size) : Res B (w.alloc (.cells #[v] t)) t 1 (some ⟨w.heap.size, 0, none⟩) 1 1 [[v]] :=
  ⟨⟨by simp, .inr ⟨w.heap.size, 1, #[v], rfl, hB, Blk.new w t #[v], Nat.le_refl _, by decide, by simp, by simp⟩⟩, rfl, by simp⟩

theorem spec_l07DrawSum_any (K : Code) (hK : K.Ok) (g : Nat) (w0 : World) (w : World) (hT : Nx K g w0 w) :
    Calls Tryz.prog 153 #[.pointer (some ⟨g, 0, none⟩)] w fun e w' => ∃ x : Int, e = .returned (.int .i64 x) ∧ (0 ≤ x ∧ x ≤ 100000001) ∧ Nx K g w0 w' := by
  go_enter Tryz.func153, Tryz.ntmps153
  go_wp2_with (first | (go_at_call 74; refine (spec_l01Next_any K hK g _ _ _ (Nx.refl (Nx.src (by first | exact hT | exact hT.alloc _ | exact (hT.alloc _).alloc _ | exact hT.drew)))).mono ?_; rintro e w3 ⟨x, rfl, ⟨hx0, hx1⟩, hN⟩; have hT := Nx.trans (by first | exact hT | exact hT.alloc _ | exact (hT.alloc _).alloc _ | exact hT.drew) hN) | (go_at_call 79; refine (spec_l01Pick_new K hK g _ _ _ _ (by first | exact hT | exact hT.alloc _ | exact (hT.alloc _).alloc _ | exact hT.drew) (by rfl) (by decide) (by decide) (by rfl)).mono ?_; rintro e w3 ⟨x, rfl, hx, hT⟩; simp only [OneOf, Value.int.injEq, true_and, or_false] at hx))
  all_goals (go_ret; exact ⟨_, rfl, by omega, hT⟩)
theorem l03End_draw (f : Int) (A : Option Addr) (n c : Nat) (w : World) (hf : -1000 ≤ f ∧ f ≤ 1000) (hn : n ≤ 1000) :
    Calls Tryz.prog 137 #[.agg #[.int .i64 f, .slice A n c]] w fun e w' => e = .returned (.int .i64 (f + (n : Int) - 1)) ∧ Below w.heap.size w w' := by
  go_enter Tryz.func137, Tryz.ntmps137
  go_wp2
  go_ret
  exact ⟨rfl, (Below.refl _ w).alloc (Nat.le_refl _) _⟩

theorem up_part {v x : Int} (hv : 0 ≤ v ∧ v ≤ 20000) (hx : 0 ≤ x ∧ x ≤ 1000) : (0 ≤ v * x ∧ v * x ≤ 20000000) ∧ (0 ≤ ceilDiv (v * x) 1000 ∧ ceilDiv (v * x) 1000 ≤ v) := by
  have h1 := Int.mul_nonneg hv.1 hx.1
  have h2 : v * x ≤ v * 1000 := Int.mul_le_mul_of_nonneg_left hx.2 hv.1
  refine ⟨⟨h1, by omega⟩, ?_⟩
  unfold ceilDiv; omega
theorem ints_all {xs : List Int} (h : ∀ x ∈ xs, 0 ≤ x ∧ x ≤ 1000) : allR xs 0 1000 = true := by
  unfold allR; rw [List.all_eq_true]; exact fun x hx => inR_true.2 (h x hx)

set_option maxRecDepth 100000 in
set_option maxHeartbeats 4000000 in
theorem MakeTable_draw (f l : Int) (A : Option Addr) (n c : Nat) (rs : List Int) (w : World) (hf : 0 ≤ f ∧ f ≤ 50) (hl : 1 ≤ l ∧ l ≤ 20000) (hrs : rs.length = n) (hn : 1 ≤ n ∧ n ≤ 25) (hX : Rd w w.heap.size A 1 (intRows rs)) (hr : ∀ x ∈ rs, 0 ≤ x ∧ x ≤ 1000) :
    Calls Tryz.prog 168 #[.int .i64 f, .int .i64 l, .slice A n c] w fun e w' => ∃ (A' : Option Addr) (n' c' : Nat), e = .returned (.tuple #[.agg #[.int .i64 f, .slice A' n' c'], .int .i64 0]) ∧ IntsBy w.heap.size w' A' n' c' 0 20000 ∧ (1 ≤ n' ∧ n' ≤ 30) ∧ Below w.heap.size w w' := by
  obtain ⟨i0, hi0, hz0, hz1, hz2⟩ := info_parts Int64.info
  have HI := Lib.hid (And.intro hi0 (And.intro hz0 (And.intro hz1 hz2))); clear hi0 hz0 hz1 hz2
  obtain ⟨f0, f1⟩ := hf
  obtain ⟨l0, l1⟩ := hl
  obtain ⟨n0, n1⟩ := hn
  have hbw : Below w.heap.size w (w.alloc (.cells #[.int .i64 0, .slice none 0 0] 40)) := (Below.refl _ w).alloc (Nat.le_refl _) _
  have HX0 := Lib.hid hX
  have HX1 := Lib.hid (hX.past hbw); clear hX
  have HL := Lib.hid hrs; clear hrs
  have HR := Lib.hid hr
  have q1 : inR f 0 100 = true := inR_true.2 (by omega)
  have q2 : inR l 1 1000000 = true := inR_true.2 (by omega)
  have HA := Lib.hid (ints_all hr); clear hr
  have HW1 := Lib.hid (show (allR rs 0 1000 && decide ((n : Int) ≤ min 118 (149 - f))) = true by rw [HA.out]; simp; omega)
  go_enter Tryz.func168, Tryz.ntmps168
  go_wp2_with (first | (go_at_call 121; refine (spec_l01In_any _ _ _ _).mono ?_; rintro e w' ⟨rfl, rfl⟩) | (go_at_call 106; refine (spec_l01Within_any A n c rs _ 0 1000 _ HL.out (by omega) HX1.out).mono ?_; rw [HW1.out]; rintro e w' ⟨rfl, rfl⟩))
  clear q1 q2
  have HS := Lib.hid (show Blk (((w.alloc (.cells #[.int .i64 0, .slice none 0 0] 40)).alloc (.cells #[.int .i64 l] 2)).alloc (.cells #[.int .i64 f, .slice (some ⟨w.heap.size + 1, 0, none⟩) 1 1] 40)) (w.heap.size + 1 + 1) 40 #[.int .i64 f, .slice (some ⟨w.heap.size + 1, 0, none⟩) 1 1] ∧ Res (w.heap.size + 1) (((w.alloc (.cells #[.int .i64 0, .slice none 0 0] 40)).alloc (.cells #[.int .i64 l] 2)).alloc (.cells #[.int .i64 f, .slice (some ⟨w.heap.size + 1, 0, none⟩) 1 1] 40)) 2 1 (some ⟨w.heap.size + 1, 0, none⟩) 1 1 (intRows [l]) ∧ Blk (((w.alloc (.cells #[.int .i64 0, .slice none 0 0] 40)).alloc (.cells #[.int .i64 l] 2)).alloc (.cells #[.int .i64 f, .slice (some ⟨w.heap.size + 1, 0, none⟩) 1 1] 40)) (w.heap.size) 40 #[.int .i64 0, .slice none 0 0] ∧ Below w.heap.size w (((w.alloc (.cells #[.int .i64 0, .slice none 0 0] 40)).alloc (.cells #[.int .i64 l] 2)).alloc (.cells #[.int .i64 f, .slice (some ⟨w.heap.size + 1, 0, none⟩) 1 1] 40)) ∧ Rd (((w.alloc (.cells #[.int .i64 0, .slice none 0 0] 40)).alloc (.cells #[.int .i64 l] 2)).alloc (.cells #[.int .i64 f, .slice (some ⟨w.heap.size + 1, 0, none⟩) 1 1] 40)) w.heap.size A 1 (intRows rs) from by
    refine ⟨by have h := Blk.new ((w.alloc (.cells #[.int .i64 0, .slice none 0 0] 40)).alloc (.cells #[.int .i64 l] 2)) 40 #[.int .i64 f, .slice (some ⟨w.heap.size + 1, 0, none⟩) 1 1]; simpa using h, ?_, (((Blk.new w 40 #[.int .i64 0, .slice none 0 0]).alloc _).alloc _), ((hbw.alloc (by simp) _).alloc (by simp <;> omega) _), ?_⟩
    · have h := (Res.new1 (w := (w.alloc (.cells #[.int .i64 0, .slice none 0 0] 40))) (B := w.heap.size + 1) 2 (.int .i64 l) (by simp)).alloc (.cells #[.int .i64 f, .slice (some ⟨w.heap.size + 1, 0, none⟩) 1 1] 40)
      simpa [intRows] using h
    · exact HX0.out.below ((hbw.alloc (by simp) _).alloc (by simp <;> omega) _))
  generalize (((w.alloc (.cells #[.int .i64 0, .slice none 0 0] 40)).alloc (.cells #[.int .i64 l] 2)).alloc (.cells #[.int .i64 f, .slice (some ⟨w.heap.size + 1, 0, none⟩) 1 1] 40)) = W at HS ⊢
  obtain ⟨h1, h2, h3, h4, h5⟩ := HS.out
  have H1 := Lib.hid h1; have H2 := Lib.hid h2; have H3 := Lib.hid h3; have H4 := Lib.hid h4
  clear h1 h2 h3 h4 h5 HS hbw HX1 HW1 HA
  go_loopw [1, 9] (fun li i wr => ∃ (k : Nat) (v : Int) (A' : Option Addr) (j c' : Nat) (ls : List Int), k ≤ n ∧ i = .int .i64 k ∧ li = .int .i64 v ∧ (0 ≤ v ∧ v ≤ 20000) ∧ (1 ≤ j ∧ j ≤ k + 1) ∧ Hid (Blk wr (w.heap.size + 1 + 1) 40 #[.int .i64 f, .slice A' j c']) ∧ Hid (Res (w.heap.size + 1) wr 2 1 A' j c' (intRows ls)) ∧ Hid (blkOf A' ≠ some (w.heap.size + 1 + 1)) ∧ Hid (∀ x ∈ ls, 0 ≤ x ∧ x ≤ 20000) ∧ Hid (Blk wr (w.heap.size) 40 #[.int .i64 0, .slice none 0 0]) ∧ Hid (Below w.heap.size w wr)) (fun _ i _ => n - (intOf i).toNat)
  case atStart => exact ⟨0, l, _, 1, 1, [l], by omega, rfl, rfl, by omega, by omega, H1, H2, Lib.hid (by simp [blkOf]), Lib.hid (by intro x hx; simp at hx; omega), H3, H4⟩
  case round =>
    obtain ⟨k, v, A', j, c', ls, hk, rfl, rfl, ⟨v0, v1⟩, ⟨j0, j1⟩, HO, HRs, HNE, HLS, HZ, HB⟩ := hrel
    have b0 : wr.cell? ⟨w.heap.size + 1 + 1, 1, none⟩ = some (.slice A' j c') := HO.out.cell 1
    by_cases hlt : k < n ∧ 0 < v
    · obtain ⟨hlt, hv⟩ := hlt
      obtain ⟨x, hx⟩ := get_of_lt (xs := rs) (k := k) (by rw [HL.out]; exact hlt)
      obtain ⟨⟨u0, u1⟩, u2, u3⟩ := up_part ⟨v0, v1⟩ (HR.out x (List.mem_of_getElem? hx))
      obtain ⟨ad, rfl, had, hc⟩ := (HX0.out.below HB.out).int_at hx
      have hki : (k : Int) < (n : Int) := by omega
      clear hx
      have hsz : w.heap.size + 1 ≤ wr.heap.size := Nat.le_trans (by omega) (Nat.le_of_lt HO.out.lt)
      go_wp2_with (first | (go_at_call 162; refine (spec_l01Up_any (v * x) 1000 _ (by omega) (by omega) (by omega) (by omega)).mono ?_; rintro e w9 ⟨rfl, rfl⟩) | (at_builtin; refine wpList_append_row_at _ rfl _ _ _ rfl (w.heap.size + 1) 2 i0 _ 1 8 Tryz.underlying38 HI.out.1 HI.out.2.1 HI.out.2.2.1 HI.out.2.2.2 rfl (by decide) (by decide) A' j c' _ rfl HRs.out [.int .i64 _] _ rfl rfl (by simp [Value.oneCell']) (by omega) hsz ?_; intro A2 c2 w4 hR4 hb4 hk4 hA4; rw [← intRows_snoc] at hR4; have HR4 := Lib.hid hR4; clear hR4; have HO4 := Lib.hid (HO.out.kept hk4 (fun h => HNE.out h.symm)); have HZ4 := Lib.hid (HZ.out.below hb4 (by omega)); have HB4 := Lib.hid (HB.out.trans (hb4.mono (by omega))); have HNE4 : Hid (blkOf A2 ≠ some (w.heap.size + 1 + 1)) := Lib.hid (by rcases hA4 with h | h; exact (by rw [h]; exact HNE.out); exact (by have hlt := HO.out.lt; rw [h]; intro h9; injection h9 with h9; omega)); have z1 : w4.cell? ⟨w.heap.size + 1 + 1, 1, none⟩ = some (.slice A' j c') := HO4.out.cell 1; have z2 : w4.frozen? ⟨w.heap.size + 1 + 1, 1, none⟩ = false := HO4.out.frozen 1; clear hk4 hA4 hb4))
      have HO5 := Lib.hid (show Blk (w4.setCell ⟨w.heap.size + 1 + 1, 1, none⟩ (.slice A2 (j + 1) c2)) (w.heap.size + 1 + 1) 40 #[.int .i64 f, .slice A2 (j + 1) c2] by simpa using HO4.out.set_ 1 (.slice A2 (j + 1) c2))
      have HR5 := Lib.hid (HR4.out.keep (w' := (w4.setCell ⟨w.heap.size + 1 + 1, 1, none⟩ (.slice A2 (j + 1) c2))) fun g' hg' => Below.heap_setCell _ _ _ _ (fun h => HNE4.out (by rw [hg']; exact congrArg some h)))
      have HZ5 := Lib.hid (HZ4.out.far (p := ⟨w.heap.size + 1 + 1, 1, none⟩) (by show w.heap.size ≠ w.heap.size + 1 + 1; omega) (.slice A2 (j + 1) c2))
      have HB5 := Lib.hid (HB4.out.setCell (p := ⟨w.heap.size + 1 + 1, 1, none⟩) (by show w.heap.size ≤ w.heap.size + 1 + 1; omega) (.slice A2 (j + 1) c2))
      go_roundw
      case rel => exact ⟨k + 1, v - ceilDiv (v * x) 1000, A2, j + 1, c2, ls ++ [v - ceilDiv (v * x) 1000], by omega, by go_num, rfl, by omega, by omega, HO5, HR5, HNE4, Lib.hid (ints_snoc HLS.out (by omega)), HZ5, HB5⟩
      case measure => simp [intOf]; omega
    · have hsz : w.heap.size + 1 ≤ wr.heap.size := Nat.le_trans (by omega) (Nat.le_of_lt HO.out.lt)
      by_cases hv : 0 < v
      · have hkn : k = n := by omega
        subst hkn
        clear hlt
        go_upto_region 11 with (at_builtin; refine wpList_append_row_at _ rfl _ _ _ rfl (w.heap.size + 1) 2 i0 _ 1 8 Tryz.underlying38 HI.out.1 HI.out.2.1 HI.out.2.2.1 HI.out.2.2.2 rfl (by decide) (by decide) A' j c' _ rfl HRs.out [.int .i64 _] _ rfl rfl (by simp [Value.oneCell']) (by omega) hsz ?_; intro A2 c2 w4 hR4 hb4 hk4 hA4; rw [← intRows_snoc] at hR4; have HR4 := Lib.hid hR4; clear hR4; have HO4 := Lib.hid (HO.out.kept hk4 (fun h => HNE.out h.symm)); have HZ4 := Lib.hid (HZ.out.below hb4 (by omega)); have HB4 := Lib.hid (HB.out.trans (hb4.mono (by omega))); have HNE4 : Hid (blkOf A2 ≠ some (w.heap.size + 1 + 1)) := Lib.hid (by rcases hA4 with h | h; exact (by rw [h]; exact HNE.out); exact (by have hlt := HO.out.lt; rw [h]; intro h9; injection h9 with h9; omega)); have z1 : w4.cell? ⟨w.heap.size + 1 + 1, 1, none⟩ = some (.slice A' j c') := HO4.out.cell 1; have z2 : w4.frozen? ⟨w.heap.size + 1 + 1, 1, none⟩ = false := HO4.out.frozen 1; clear hk4 hA4 hb4)
        have HO5 := Lib.hid (show Blk (w4.setCell ⟨w.heap.size + 1 + 1, 1, none⟩ (.slice A2 (j + 1) c2)) (w.heap.size + 1 + 1) 40 #[.int .i64 f, .slice A2 (j + 1) c2] by simpa using HO4.out.set_ 1 (.slice A2 (j + 1) c2))
        have HR5 := Lib.hid (HR4.out.keep (w' := (w4.setCell ⟨w.heap.size + 1 + 1, 1, none⟩ (.slice A2 (j + 1) c2))) fun g' hg' => Below.heap_setCell _ _ _ _ (fun h => HNE4.out (by rw [hg']; exact congrArg some h)))
        have HZ5 := Lib.hid (HZ4.out.far (p := ⟨w.heap.size + 1 + 1, 1, none⟩) (by show w.heap.size ≠ w.heap.size + 1 + 1; omega) (.slice A2 (j + 1) c2))
        have HB5 := Lib.hid (HB4.out.setCell (p := ⟨w.heap.size + 1 + 1, 1, none⟩) (by show w.heap.size ≤ w.heap.size + 1 + 1; omega) (.slice A2 (j + 1) c2))
        generalize (w4.setCell ⟨w.heap.size + 1 + 1, 1, none⟩ (.slice A2 (j + 1) c2)) = w5 at HO5 HR5 HZ5 HB5 ⊢
        have hcO := Lib.hid (Blk.agg (cs := [.int .i64 f, .slice A2 (j + 1) c2]) HO5.out 0 [.int .i64 f, .slice A2 (j + 1) c2] rfl)
        have H1' : Hid (∀ v ∈ ([.int .i64 f, .slice A2 (j + 1) c2] : List Value), v.oneCell' = true) := Lib.hid (by simp [Value.oneCell'])
        go_wp2_with (first | (refine wpList_load_agg rfl 40 _ rfl ⟨w.heap.size + 1 + 1, 0, none⟩ rfl [.int .i64 f, .slice A2 (j + 1) c2] hcO.out _ Tryz.underlying40 rfl Tab.size ?_) | (refine wpList_store_agg rfl 40 _ _ rfl (w.heap.size) 0 [.int .i64 f, .slice A2 (j + 1) c2] rfl rfl 40 #[.int .i64 0, .slice none 0 0] HZ5.out Tab.size (by simp) H1'.out ?_))
        intro w6 hR6 hg6 _
        have hR6' : Blk w6 (w.heap.size) 40 #[.int .i64 f, .slice A2 (j + 1) c2] := hR6
        have r0 : w6.cell? ⟨w.heap.size, 0, none⟩ = some (.int .i64 f) := hR6'.cell 0
        have r1 : w6.cell? ⟨w.heap.size, 1, none⟩ = some (.slice A2 (j + 1) c2) := hR6'.cell 1
        go_wp2
        refine bodyPost_ret (v := .tuple #[.agg #[.int .i64 f, .slice A2 (j + 1) c2], .int .i64 0]) (by simp [results, Tryz.results168, go_sem, r0, r1]) rfl ?_
        exact ⟨_, _, _, rfl, ⟨ls ++ [0], (HR5.out.keep fun g' hg' => hg6.block g' (HR5.out.lt hg').2 (fun e => by injection e with e; have := (HR5.out.lt hg').1; omega)).more (by omega), ints_snoc HLS.out (by omega)⟩, by omega, HB5.out.grown hg6 (Nat.le_of_lt HZ5.out.lt) (fun k hk => by injection hk with hk; omega)⟩
      · have hv0 : v = 0 := by omega
        subst hv0
        clear hlt hv
        by_cases hkn : k < n
        · have hki : (k : Int) < (n : Int) := by omega
          have hcO := Lib.hid (Blk.agg (cs := [.int .i64 f, .slice A' j c']) HO.out 0 [.int .i64 f, .slice A' j c'] rfl)
          have H1' : Hid (∀ v ∈ ([.int .i64 f, .slice A' j c'] : List Value), v.oneCell' = true) := Lib.hid (by simp [Value.oneCell'])
          go_wp2_with (first | (refine wpList_load_agg rfl 40 _ rfl ⟨w.heap.size + 1 + 1, 0, none⟩ rfl [.int .i64 f, .slice A' j c'] hcO.out _ Tryz.underlying40 rfl Tab.size ?_) | (refine wpList_store_agg rfl 40 _ _ rfl (w.heap.size) 0 [.int .i64 f, .slice A' j c'] rfl rfl 40 #[.int .i64 0, .slice none 0 0] HZ.out Tab.size (by simp) H1'.out ?_))
          intro w6 hR6 hg6 _
          have hR6' : Blk w6 (w.heap.size) 40 #[.int .i64 f, .slice A' j c'] := hR6
          have r0 : w6.cell? ⟨w.heap.size, 0, none⟩ = some (.int .i64 f) := hR6'.cell 0
          have r1 : w6.cell? ⟨w.heap.size, 1, none⟩ = some (.slice A' j c') := hR6'.cell 1
          go_wp2
          refine bodyPost_ret (v := .tuple #[.agg #[.int .i64 f, .slice A' j c'], .int .i64 0]) (by simp [results, Tryz.results168, go_sem, r0, r1]) rfl ?_
          exact ⟨_, _, _, rfl, ⟨ls, (HRs.out.keep fun g' hg' => hg6.block g' (HRs.out.lt hg').2 (fun e => by injection e with e; have := (HRs.out.lt hg').1; omega)).more (by omega), HLS.out⟩, by omega, HB.out.grown hg6 (Nat.le_of_lt HZ.out.lt) (fun k hk => by injection hk with hk; omega)⟩
        · have hki : ¬ (k : Int) < (n : Int) := by omega
          have hcO := Lib.hid (Blk.agg (cs := [.int .i64 f, .slice A' j c']) HO.out 0 [.int .i64 f, .slice A' j c'] rfl)
          have H1' : Hid (∀ v ∈ ([.int .i64 f, .slice A' j c'] : List Value), v.oneCell' = true) := Lib.hid (by simp [Value.oneCell'])
          go_wp2_with (first | (refine wpList_load_agg rfl 40 _ rfl ⟨w.heap.size + 1 + 1, 0, none⟩ rfl [.int .i64 f, .slice A' j c'] hcO.out _ Tryz.underlying40 rfl Tab.size ?_) | (refine wpList_store_agg rfl 40 _ _ rfl (w.heap.size) 0 [.int .i64 f, .slice A' j c'] rfl rfl 40 #[.int .i64 0, .slice none 0 0] HZ.out Tab.size (by simp) H1'.out ?_))
          intro w6 hR6 hg6 _
          have hR6' : Blk w6 (w.heap.size) 40 #[.int .i64 f, .slice A' j c'] := hR6
          have r0 : w6.cell? ⟨w.heap.size, 0, none⟩ = some (.int .i64 f) := hR6'.cell 0
          have r1 : w6.cell? ⟨w.heap.size, 1, none⟩ = some (.slice A' j c') := hR6'.cell 1
          go_wp2
          refine bodyPost_ret (v := .tuple #[.agg #[.int .i64 f, .slice A' j c'], .int .i64 0]) (by simp [results, Tryz.results168, go_sem, r0, r1]) rfl ?_
          exact ⟨_, _, _, rfl, ⟨ls, (HRs.out.keep fun g' hg' => hg6.block g' (HRs.out.lt hg').2 (fun e => by injection e with e; have := (HRs.out.lt hg').1; omega)).more (by omega), HLS.out⟩, by omega, HB.out.grown hg6 (Nat.le_of_lt HZ.out.lt) (fun k hk => by injection hk with hk; omega)⟩
end Go.Proofs.YtlbllonpodckgaaGreatDoor
