/- What the law on life tables draws. -/
import Derived.Test.YtlbllonpodckgaaGreatDoorDrawPt3
import Derived.Test.YtlbllonpodckgaaGreatDoorDamage
import Derived.Test.YtlbllonpodckgaaGreatDoorTabT
namespace Go.Proofs.YtlbllonpodckgaaGreatDoor
open Go.RowKit Go.BigFrame

def TxtE (w w' : World) (e : Ending) : Prop := ∃ r : ByteArray, e = .returned (.string r) ∧ r.size ≤ 20000 ∧ Below w.heap.size w w'
theorem ints_lies {B n c : Nat} {w : World} {A : Option Addr} (h : IntsBy B w A n c 0 1000001) (hn : n ≤ 1000) : ∃ xs : List Int, LiesT w A n xs ∧ n ≤ c := by
  obtain ⟨xs, hR, hf⟩ := h
  exact ⟨xs, ⟨by have := hR.len; rwa [intRows_length] at this, by omega, hR.rd, fun x hx => by have := hf x hx; unfold In64; omega⟩, cap_of hR⟩
theorem ints_far {B b n c : Nat} {lo hi : Int} {w : World} {A : Option Addr} (h : IntsBy B w A n c lo hi) (hb : b < B) (u v : Value) : IntsBy B ((w.setCell ⟨b, 0, none⟩ u).setCell ⟨b, 1, none⟩ v) A n c lo hi := by
  obtain ⟨xs, hR, hf⟩ := h
  refine ⟨xs, hR.keep fun g hg => ?_, hf⟩
  have := (hR.lt hg).1
  exact (Below.heap_setCell _ _ _ _ (by show g ≠ b; omega)).trans (Below.heap_setCell _ _ _ _ (by show g ≠ b; omega))
theorem textP_size (f : Int) (xs : List Int) : (S (textP f xs)).size ≤ 3000 := by
  unfold textP
  split
  · rename_i h
    obtain ⟨⟨f0, f1⟩, ⟨x0, x1⟩, hx⟩ := table_bounds h
    have h1 := nums_size (xs := f :: xs) (by rw [List.length_cons]; omega) (fun y hy => by
      rcases List.mem_cons.1 hy with rfl | hy
      · omega
      · exact hx y hy) (f :: xs).length
    rwa [List.take_length] at h1
  · show (0 : Nat) ≤ 3000; omega
set_option maxHeartbeats 4000000 in
theorem spec_DrawReadTable_any (K : Code) (hK : K.Ok) (w : World) (hX : Rd w w.heap.size K.A 1 (byteRows K.bs)) :
    Calls Tryz.prog 50 #[.slice K.A K.n K.c] w fun e w' => TxtE w w' e := by
  go_enter Tryz.func50, Tryz.ntmps50
  go_wp2_with fail
  refine (spec_l01From_any K hK _ hX).mono ?_
  rintro e w1 ⟨g, rfl, hg, hb, hS⟩
  have hT0 := Nx.refl hS
  go_wp2_with fail
  refine (spec_l03Draw_any K hK g _ _ hT0).mono ?_
  rintro e w2 ⟨f, A1, n1, c1, rfl, hE, hn1, hf1, hT1⟩
  obtain ⟨xs, hL, hc⟩ := ints_lies hE (by omega)
  clear hT0 hE
  go_wp2_with fail
  refine (spec_TableText_any f A1 n1 c1 xs _ hL hc (by unfold In64; omega)).mono ?_
  rintro e w3 ⟨rfl, hb3⟩
  have hT := hT1.past hb3
  have hz := textP_size f xs
  clear hb3 hT1 hL
  generalize S (textP f xs) = J at hz ⊢
  go_wp2_with (first | (go_at_call 74; refine (spec_l01Next_any K hK g _ _ _ (Nx.refl (Nx.src (by first | exact hT | exact hT.alloc _ | exact (hT.alloc _).alloc _ | exact hT.drew)))).mono ?_; rintro e w3 ⟨x, rfl, ⟨hx0, hx1⟩, hN⟩; have hT := Nx.trans (by first | exact hT | exact hT.alloc _ | exact (hT.alloc _).alloc _ | exact hT.drew) hN) | (go_at_call 75; refine (spec_l01Damage_any K hK g _ J (by omega) _ hT).mono ?_; rintro e w5 ⟨r, rfl, hr, hT⟩))
  all_goals (go_ret; exact ⟨_, rfl, by omega, hb.trans (hT.out hg)⟩)

def DrawTE (w w' : World) (e : Ending) : Prop := ∃ (f : Int) (A : Option Addr) (n c : Nat) (a : Int), e = .returned (.tuple #[.agg #[.int .i64 f, .slice A n c], .int .i64 a]) ∧ IntsBy w.heap.size w' A n c 0 1000001 ∧ (1 ≤ n ∧ n ≤ 30) ∧ (-1 ≤ f ∧ f ≤ 101) ∧ (-2000 ≤ a ∧ a ≤ 4000) ∧ Below w.heap.size w w'
set_option maxHeartbeats 4000000 in
set_option maxRecDepth 100000 in
theorem spec_DrawLivesAt_any (K : Code) (hK : K.Ok) (w : World) (hX : Rd w w.heap.size K.A 1 (byteRows K.bs)) :
    Calls Tryz.prog 107 #[.slice K.A K.n K.c] w fun e w' => DrawTE w w' e := by
  have hbw : Below w.heap.size w (w.alloc (.cells #[.int .i64 0, .slice none 0 0] 40)) := (Below.refl _ w).alloc (Nat.le_refl _) _
  have HZ0 := Blk.new w 40 #[.int .i64 0, .slice none 0 0]
  go_enter Tryz.func107, Tryz.ntmps107
  go_wp2_with fail
  refine (spec_l01From_any K hK _ (hX.past hbw)).mono ?_
  rintro e w1 ⟨g, rfl, hg, hb, hS⟩
  have HZ1 := HZ0.below' hb
  have hgw : w.heap.size < g := by have := hg; simp at this; omega
  have hb := hbw.trans (hb.mono hbw.size)
  have hT0 := Nx.refl hS
  go_wp2_with fail
  refine (spec_l03Draw_any K hK g _ _ hT0).mono ?_
  rintro e w2 ⟨f, A1, n1, c1, rfl, hE, ⟨hn1, hn2⟩, ⟨hf1, hf2⟩, hT1⟩
  have HE := Lib.hid hE
  have hgB : g < w1.heap.size := hS.lt
  have HZ2 := Lib.hid ((HZ1.nx hT1 (Nat.ne_of_lt hgw)).alloc (.cells #[.int .i64 f, .slice A1 n1 c1] 40))
  have HT2 := Lib.hid (hT1.alloc (.cells #[.int .i64 f, .slice A1 n1 c1] 40))
  have HE2 := Lib.hid (HE.out.past ((Below.refl w2.heap.size w2).alloc (Nat.le_refl _) (.cells #[.int .i64 f, .slice A1 n1 c1] 40)))
  have HBK := Lib.hid (Blk.new w2 40 #[.int .i64 f, .slice A1 n1 c1])
  have hgG : g < w2.heap.size := hT1.src.lt
  have HB := Lib.hid hb
  clear hE HE hT0 hT1 HZ1 HZ0 hb
  go_wp2
  generalize w2.alloc (.cells #[.int .i64 f, .slice A1 n1 c1] 40) = W3 at HZ2 HT2 HE2 HBK ⊢
  generalize w2.heap.size = G at HBK hgG ⊢
  have HT3 := Lib.hid (Nx.refl HT2.out.src)
  have hwG : w.heap.size < G := by omega
  have HS := Lib.hid (show ∀ w', Blk w' G 40 #[.int .i64 f, .slice A1 n1 c1] → w'.cell? ⟨G, 0, none⟩ = some (.int .i64 f) ∧ w'.cell? ⟨G, 1, none⟩ = some (.slice A1 n1 c1) from fun w' h => ⟨h.cell 0, h.cell 1⟩)
  go_region_held3 (fun w' => w'.cell? ⟨G, 0, none⟩ = some (.int .i64 f) ∧ w'.cell? ⟨G, 1, none⟩ = some (.slice A1 n1 c1)) (first | exact HS.out _ HK5.out | exact HS.out _ HK4.out | exact HS.out _ HBK.out.drew) (first | (go_at_call 77; refine (spec_l03DrawAge_any K hK g W3 _ HT3.out.drew f A1 n1 c1 ⟨by omega, by omega⟩ ⟨by omega, by omega⟩).mono ?_; rintro e w4 ⟨age, rfl, ⟨ha1, ha2⟩, hT4⟩; have HT4 := Lib.hid hT4; clear hT4; have HZ4 := Lib.hid (HZ2.out.nx HT4.out (Nat.ne_of_lt hgw)); have HK4 := Lib.hid (HBK.out.nx HT4.out (Nat.ne_of_gt hgG)); have HK5 := Lib.hid ((HK4.out.far (p := ⟨w.heap.size, 0, none⟩) (Nat.ne_of_gt hwG) (.int .i64 f)).far (p := ⟨w.heap.size, 1, none⟩) (Nat.ne_of_gt hwG) (.slice A1 n1 c1)); have c0 := HZ4.out.cell 0; have c1' := HZ4.out.cell 1; have z0 := HZ4.out.frozen 0; have z1 := HZ4.out.frozen 1))
  all_goals
    have hK := ((HZ4.out.set_ 0 (.int .i64 f)).set_ 1 (.slice A1 n1 c1))
    have HB4 := Lib.hid (HB.out.trans ((HT2.out.trans HT4.out).out (by omega)))
    have HE4 := HE2.out.nx HT4.out hgB
    have hBE := Lib.hid ((HB4.out.setCell (p := ⟨w.heap.size, 0, none⟩) (Nat.le_refl _) (.int .i64 f)).setCell (p := ⟨w.heap.size, 1, none⟩) (Nat.le_refl _) (.slice A1 n1 c1))
    have HE9 := Lib.hid (ints_far HE4 (show w.heap.size < w1.heap.size by omega) (.int .i64 f) (.slice A1 n1 c1))
    clear c0 c1' z0 z1 HE4
    generalize (w4.setCell ⟨w.heap.size, 0, none⟩ (.int .i64 f)).setCell ⟨w.heap.size, 1, none⟩ (.slice A1 n1 c1) = W9 at hK hBE HE9 ⊢
    have r0 : W9.cell? ⟨w.heap.size, 0, none⟩ = some (.int .i64 f) := hK.cell 0
    have r1 : W9.cell? ⟨w.heap.size, 1, none⟩ = some (.slice A1 n1 c1) := hK.cell 1
    go_wp2
    refine bodyPost_ret (v := .tuple #[.agg #[.int .i64 f, .slice A1 n1 c1], .int .i64 age]) (by simp [results, Tryz.results107, go_sem, r0, r1]) rfl ?_
    exact ⟨f, A1, n1, c1, age, rfl, HE9.out.more (show w.heap.size ≤ w1.heap.size by omega), ⟨hn1, hn2⟩, ⟨hf1, hf2⟩, ⟨ha1, ha2⟩, hBE.out⟩
set_option maxHeartbeats 2000000 in
theorem spec_DrawDeathsAt_any (K : Code) (hK : K.Ok) (w : World) (hX : Rd w w.heap.size K.A 1 (byteRows K.bs)) :
    Calls Tryz.prog 43 #[.slice K.A K.n K.c] w fun e w' => DrawTE w w' e := by
  have hbw : Below w.heap.size w (w.alloc (.cells #[.int .i64 0, .slice none 0 0] 40)) := (Below.refl _ w).alloc (Nat.le_refl _) _
  have HZ0 := Blk.new w 40 #[.int .i64 0, .slice none 0 0]
  go_enter Tryz.func43, Tryz.ntmps43
  go_wp2_with fail
  refine (spec_DrawLivesAt_any K hK _ (hX.past hbw)).mono ?_
  rintro e w1 ⟨f, A1, n1, c1, age, rfl, hE, hn, hf, ha, hb⟩
  have HZ := Lib.hid (HZ0.below' hb)
  have z0 := HZ.out.frozen 0
  have z1 := HZ.out.frozen 1
  have c0 : w1.cell? ⟨w.heap.size, 0, none⟩ = some (.int .i64 0) := HZ.out.cell 0
  have c1' : w1.cell? ⟨w.heap.size, 1, none⟩ = some (.slice none 0 0) := HZ.out.cell 1
  have hK2 := ((HZ.out.set_ 0 (.int .i64 f)).set_ 1 (.slice A1 n1 c1))
  have HB1 := Lib.hid (hbw.trans (hb.mono hbw.size))
  have hBE := Lib.hid ((HB1.out.setCell (p := ⟨w.heap.size, 0, none⟩) (Nat.le_refl _) (.int .i64 f)).setCell (p := ⟨w.heap.size, 1, none⟩) (Nat.le_refl _) (.slice A1 n1 c1))
  have HE9 := Lib.hid (ints_far hE (show w.heap.size < (w.alloc (.cells #[.int .i64 0, .slice none 0 0] 40)).heap.size by simp) (.int .i64 f) (.slice A1 n1 c1))
  have hw9 : w.heap.size ≤ (w.alloc (.cells #[.int .i64 0, .slice none 0 0] 40)).heap.size := by simp
  go_wp2
  generalize (w1.setCell ⟨w.heap.size, 0, none⟩ (.int .i64 f)).setCell ⟨w.heap.size, 1, none⟩ (.slice A1 n1 c1) = W9 at hK2 hBE HE9 ⊢
  have r0 : W9.cell? ⟨w.heap.size, 0, none⟩ = some (.int .i64 f) := hK2.cell 0
  have r1 : W9.cell? ⟨w.heap.size, 1, none⟩ = some (.slice A1 n1 c1) := hK2.cell 1
  refine bodyPost_ret (v := .tuple #[.agg #[.int .i64 f, .slice A1 n1 c1], .int .i64 age]) (by simp [results, Tryz.results43, go_sem, r0, r1]) rfl ?_
  exact ⟨f, A1, n1, c1, age, rfl, HE9.out.more hw9, hn, hf, ha, hBE.out⟩
end Go.Proofs.YtlbllonpodckgaaGreatDoor
