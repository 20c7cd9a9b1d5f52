/- Texts are read: readEntry of the program. -/
import Derived.Test.YtlbllonpodckgaaGreatDoorRead2
import Derived.Test.YtlbllonpodckgaaGreatDoorTail
import Derived.Deep.RegionHeld3
import Derived.Deep.DeepCutAuto
import Derived.Test.YtlbllonpodckgaaGreatDoorLedg
import Derived.Test.YtlbllonpodckgaaGreatDoorLineP
namespace Go.Proofs.YtlbllonpodckgaaGreatDoor
open Go.RowKit Go.BigFrame

def ReadsE (s : ByteArray) (w w' : World) (e : Ending) : Prop := ∃ (x : Entry) (b : Bool), e = .returned (.tuple #[.agg x.row.toArray, .bool b]) ∧ x.fits ∧ (∀ y, LineIs s y → x = y ∧ b = true) ∧ Below w.heap.size w w'
/-- the cells of the words -/
theorem words_cell {w : World} {ws : List (List UInt8)} {k : Nat} {x : List UInt8} (h : ws[k]? = some x) :
    (w.alloc (.cells ((ws.map S).map Value.string).toArray 9)).cell? ⟨w.heap.size, k, none⟩ = some (.string (S x)) := by
  rw [(Blk.new w _ _).cell, List.getElem?_toArray, List.getElem?_map, List.getElem?_map, h]; rfl

theorem zero_fits : (⟨0, 0, 0, 0⟩ : Entry).fits := by
  unfold Entry.fits In64; simp
set_option maxHeartbeats 4000000 in
set_option maxRecDepth 100000 in
theorem impl_readEntry_any (s : ByteArray) (hs : s.size ≤ 100000) (w : World) (hE : Env w) (hN : Names w) :
    Calls Tryz.prog 63 #[.string s] w fun e w' => ReadsE s w w' e := by
  have HN := Lib.hid hN; clear hN
  have HE := Lib.hid hE; clear hE
  have HW0 := Lib.hid ((Below.refl w.heap.size w).alloc (Nat.le_refl _) (.cells #[.int .i64 0, .int .i64 0, .int .i64 0, .int .i64 0] 78))
  have HZ0 := Lib.hid (Blk.new w 78 #[.int .i64 0, .int .i64 0, .int .i64 0, .int .i64 0])
  have hz0 : (w.alloc (.cells #[.int .i64 0, .int .i64 0, .int .i64 0, .int .i64 0] 78)).heap.size = w.heap.size + 1 := by simp
  go_enter Tryz.func63, Tryz.ntmps63
  go_wp2_with fail
  generalize w.alloc _ = W at HW0 HZ0 hz0 ⊢
  obtain ⟨mx, hmx⟩ := (HE.out.past HW0.out).mx
  refine (Tryz.strings_Split s ⟨#[32]⟩ mx W (by omega) hmx (by show 1 ≤ 1; omega)).mono ?_
  rw [splitB_cut, countB_one]
  rintro e w1 ⟨rfl, rfl⟩
  clear hmx
  have HL := Lib.hid (fun y (h : LineIs s y) => line_is h)
  have HWL := Lib.hid (cutL_le 32 s.data.toList)
  have HSZ := Lib.hid (show s.data.toList.length ≤ 100000 from hs)
  generalize cutL 32 s.data.toList = ws at HL HWL ⊢
  have HB1 := Lib.hid (HW0.out.alloc (by omega) (.cells ((ws.map S).map Value.string).toArray 9))
  have HZ1 := Lib.hid (HZ0.out.alloc (.cells ((ws.map S).map Value.string).toArray 9))
  have HWC := Lib.hid (fun k x (h : ws[k]? = some x) => words_cell (w := W) h)
  generalize W.alloc (.cells ((ws.map S).map Value.string).toArray 9) = W1 at HB1 HZ1 HWC ⊢
  clear HZ0 HW0
  by_cases h5 : ws.length = 5
  rotate_left
  · have h5i : ¬ (ws.length : Int) = 5 := by omega
    have c0 : W1.cell? ⟨w.heap.size, 0, none⟩ = some (.int .i64 0) := HZ1.out.cell 0
    have c1 : W1.cell? ⟨w.heap.size, 1, none⟩ = some (.int .i64 0) := HZ1.out.cell 1
    have c2 : W1.cell? ⟨w.heap.size, 2, none⟩ = some (.int .i64 0) := HZ1.out.cell 2
    have c3 : W1.cell? ⟨w.heap.size, 3, none⟩ = some (.int .i64 0) := HZ1.out.cell 3
    have z0 := HZ1.out.frozen 0
    have z1 := HZ1.out.frozen 1
    have z2 := HZ1.out.frozen 2
    have z3 := HZ1.out.frozen 3
    go_wp2
    have hK := ((((HZ1.out.set_ 0 (.int .i64 0)).set_ 1 (.int .i64 0)).set_ 2 (.int .i64 0)).set_ 3 (.int .i64 0))
    have hBE := (((((HB1.out.setCell (p := ⟨w.heap.size, 0, none⟩) (Nat.le_refl _) (.int .i64 0)).setCell (p := ⟨w.heap.size, 1, none⟩) (Nat.le_refl _) (.int .i64 0)).setCell (p := ⟨w.heap.size, 2, none⟩) (Nat.le_refl _) (.int .i64 0))).setCell (p := ⟨w.heap.size, 3, none⟩) (Nat.le_refl _) (.int .i64 0))
    generalize (((W1.setCell ⟨w.heap.size, 0, none⟩ (.int .i64 0)).setCell ⟨w.heap.size, 1, none⟩ (.int .i64 0)).setCell ⟨w.heap.size, 2, none⟩ (.int .i64 0)).setCell ⟨w.heap.size, 3, none⟩ (.int .i64 0) = W2 at hK hBE ⊢
    have r0 : W2.cell? ⟨w.heap.size, 0, none⟩ = some (.int .i64 0) := hK.cell 0
    have r1 : W2.cell? ⟨w.heap.size, 1, none⟩ = some (.int .i64 0) := hK.cell 1
    have r2 : W2.cell? ⟨w.heap.size, 2, none⟩ = some (.int .i64 0) := hK.cell 2
    have r3 : W2.cell? ⟨w.heap.size, 3, none⟩ = some (.int .i64 0) := hK.cell 3
    refine bodyPost_ret (v := .tuple #[.agg #[.int .i64 0, .int .i64 0, .int .i64 0, .int .i64 0], .bool false]) (by simp [results, Tryz.results63, go_sem, r0, r1, r2, r3]) rfl ?_
    exact ⟨⟨0, 0, 0, 0⟩, false, rfl, zero_fits, fun y hy => (by obtain ⟨c, hc⟩ := HL.out y hy; rw [hc] at h5; exact absurd rfl h5), hBE⟩
  obtain ⟨a, b, c, d, f5, rfl⟩ : ∃ a b c d f5, ws = [a, b, c, d, f5] := by
    match ws, h5 with
    | [a, b, c, d, f5], _ => exact ⟨a, b, c, d, f5, rfl⟩
  clear h5
  obtain ⟨sb, hsb⟩ : ∃ sb, S b = sb := ⟨_, rfl⟩
  obtain ⟨sc, hsc⟩ : ∃ sc, S c = sc := ⟨_, rfl⟩
  have HSB := Lib.hid hsb
  have HSC := Lib.hid hsc
  have q0 : W1.cell? ⟨w.heap.size + 1, 0, none⟩ = some (.string (S a)) := by have := HWC.out 0 a rfl; rw [hz0] at this; exact this
  have q1 : W1.cell? ⟨w.heap.size + 1, 1, none⟩ = some (.string sb) := by have := HWC.out 1 b rfl; rw [hz0, hsb] at this; exact this
  have q2 : W1.cell? ⟨w.heap.size + 1, 2, none⟩ = some (.string sc) := by have := HWC.out 2 c rfl; rw [hz0, hsc] at this; exact this
  have q3 : W1.cell? ⟨w.heap.size + 1, 3, none⟩ = some (.string (S d)) := by have := HWC.out 3 d rfl; rw [hz0] at this; exact this
  clear hsb hsc
  have hd := Lib.hid (show (S d).size ≤ 100000 by
    have h1 := HWL.out d (by simp)
    have h2 := HSZ.out
    rw [S_size]; omega)
  go_wp2_with fail
  refine (impl_ReadMonth_r (S a) _ (HE.out.past HB1.out)).mono ?_
  rintro e w2 ⟨n1, b1, rfl, i1, p1, hb⟩
  have HB2 := Lib.hid (HB1.out.trans (hb.mono HB1.out.size))
  have HZ2 := Lib.hid (HZ1.out.below' hb)
  have t1 := (hb.cell (block_lt_of_cell q1)).trans q1
  have t2 := (hb.cell (block_lt_of_cell q2)).trans q2
  have t3 := (hb.cell (block_lt_of_cell q3)).trans q3
  have HP1 := Lib.hid (And.intro i1 p1)
  clear hb q0 q1 q2 q3 i1 p1
  go_wp2_with fail
  refine (impl_ReadMoney_any (S d) hd.out _ (HE.out.past HB2.out)).mono ?_
  rintro e w3 ⟨n2, b2, rfl, i2, p2, hb⟩
  have HB3 := Lib.hid (HB2.out.trans (hb.mono HB2.out.size))
  have HZ3 := Lib.hid (HZ2.out.below' hb)
  have HQ1 := Lib.hid ((hb.cell (block_lt_of_cell t1)).trans t1)
  have HQ2 := Lib.hid ((hb.cell (block_lt_of_cell t2)).trans t2)
  have HP2 := Lib.hid (And.intro i2 p2)
  have hlt3 : w.heap.size < w3.heap.size := HZ3.out.lt
  have HN3 := Lib.hid (HN.out.past HB3.out)
  clear hb t1 t2 t3 i2 p2
  have HS := Lib.hid (show ∀ w', Below w3.heap.size w3 w' → Below w3.heap.size w3 w' ∧ w'.cell? ⟨w.heap.size + 1, 1, none⟩ = some (.string sb) ∧ w'.cell? ⟨w.heap.size + 1, 2, none⟩ = some (.string sc) from fun w' q => ⟨q, (q.cell (block_lt_of_cell HQ1.out)).trans HQ1.out, (q.cell (block_lt_of_cell HQ2.out)).trans HQ2.out⟩)
  have HD := Lib.hid ((Below.refl w3.heap.size w3).drew)
  have HA := Lib.hid (fun (o : Obj) => HD.out.alloc HD.out.size o)
  have HC1 := Lib.hid (fun X (hX : Names X) => impl_accountOf_any sb X hX)
  have HC2 := Lib.hid (fun X (hX : Names X) => impl_accountOf_any sc X hX)
  go_wp2
  go_cut [9] (fun p wx => p = .pointer (some ⟨w3.heap.size, 0, none⟩) ∧ wx = (w3.alloc (.cells #[.int .i64 n1, .int .i64 (accP sb), .int .i64 (accP sc), .int .i64 n2] 78)).drew)
  case first =>
   go_region_held3 (fun w' => Below w3.heap.size w3 w' ∧ w'.cell? ⟨w.heap.size + 1, 1, none⟩ = some (.string sb) ∧ w'.cell? ⟨w.heap.size + 1, 2, none⟩ = some (.string sc)) (first | exact HS.out _ HD.out | exact HS.out _ (HA.out _)) (first | (go_at_call 128; rename Below w3.heap.size w3 _ ∧ _ => hH; with_reducible refine Calls.mono (HC1.out _ (HN3.out.past hH.1)) ?_; rintro e wq ⟨rfl, rfl⟩) | (go_at_call 128; rename Below w3.heap.size w3 _ ∧ _ => hH; with_reducible refine Calls.mono (HC2.out _ (HN3.out.past hH.1)) ?_; rintro e wq ⟨rfl, rfl⟩))
   all_goals go_wp2_with fail
   all_goals go_meet
   all_goals exact ⟨rfl, rfl⟩
  obtain ⟨rfl, rfl⟩ := hcut
  clear HS HD HA HC1 HC2
  have HE5 := Lib.hid ((Blk.new w3 78 #[.int .i64 n1, .int .i64 (accP sb), .int .i64 (accP sc), .int .i64 n2]).drew)
  have HZ5 := Lib.hid ((HZ3.out.alloc (.cells #[.int .i64 n1, .int .i64 (accP sb), .int .i64 (accP sc), .int .i64 n2] 78)).drew)
  have HB5 := Lib.hid ((HB3.out.alloc HB3.out.size (.cells #[.int .i64 n1, .int .i64 (accP sb), .int .i64 (accP sc), .int .i64 n2] 78)).drew)
  generalize (w3.alloc (.cells #[.int .i64 n1, .int .i64 (accP sb), .int .i64 (accP sc), .int .i64 n2] 78)).drew = W5 at HE5 HZ5 HB5 ⊢
  obtain ⟨x, hx⟩ : ∃ x : Entry, x = ⟨n1, accP sb, accP sc, n2⟩ := ⟨_, rfl⟩
  have HX := Lib.hid hx
  have HXF := Lib.hid (show x.fits from by
    have h1 := accP_in sb
    have h2 := accP_in sc
    rw [hx]
    exact ⟨HP1.out.1, show In64 (accP sb) by unfold In64; omega, show In64 (accP sc) by unfold In64; omega, HP2.out.1⟩)
  have HR := Lib.hid (fun y (hy : LineIs s y) => (show x = y ∧ b1 = true ∧ b2 = true ∧ entryB x = true from by
    have ho := entry_ok hy.1
    obtain ⟨c', hc'⟩ := HL.out y hy
    simp only [List.cons.injEq] at hc'
    obtain ⟨e1, e2, e3, e4, _⟩ := hc'
    obtain ⟨m1, m2⟩ := HP1.out.2 y.month ⟨ho.m, by rw [e1]⟩
    obtain ⟨m3, m4⟩ := HP2.out.2 y.amount ⟨by have := ho.a; omega, by rw [e4]⟩
    have hxy : x = y := by
      rw [hx, m1, m3, ← HSB.out, ← HSC.out, e2, e3, accP_name ho.d, accP_name ho.k]
    exact ⟨hxy, m2, m4, by rw [hxy]; exact hy.1⟩))
  have HCE := Lib.hid (fun X => show Calls Tryz.prog 129 #[.agg #[.int .i64 n1, .int .i64 (accP sb), .int .i64 (accP sc), .int .i64 n2]] X fun e w' => e = .returned (.bool (entryB x)) ∧ Below X.heap.size X w' from by
    rw [hx]; exact impl_isEntry_any ⟨n1, accP sb, accP sc, n2⟩ X)
  clear hx HL HWL HWC HSB HSC HP1 HP2 HSZ hd HQ1 HQ2 HB1 HZ1 HB2 HZ2 HB3 HZ3 HN3 HE HN
  have c0 : W5.cell? ⟨w.heap.size, 0, none⟩ = some (.int .i64 0) := HZ5.out.cell 0
  have c1 : W5.cell? ⟨w.heap.size, 1, none⟩ = some (.int .i64 0) := HZ5.out.cell 1
  have c2 : W5.cell? ⟨w.heap.size, 2, none⟩ = some (.int .i64 0) := HZ5.out.cell 2
  have c3 : W5.cell? ⟨w.heap.size, 3, none⟩ = some (.int .i64 0) := HZ5.out.cell 3
  have z0 := HZ5.out.frozen 0
  have z1 := HZ5.out.frozen 1
  have z2 := HZ5.out.frozen 2
  have z3 := HZ5.out.frozen 3
  have e0 : W5.cell? ⟨w3.heap.size, 0, none⟩ = some (.int .i64 n1) := HE5.out.cell 0
  have e1 : W5.cell? ⟨w3.heap.size, 1, none⟩ = some (.int .i64 (accP sb)) := HE5.out.cell 1
  have e2 : W5.cell? ⟨w3.heap.size, 2, none⟩ = some (.int .i64 (accP sc)) := HE5.out.cell 2
  have e3 : W5.cell? ⟨w3.heap.size, 3, none⟩ = some (.int .i64 n2) := HE5.out.cell 3
  have HS := Lib.hid (show ∀ w', Blk w' w3.heap.size 78 #[.int .i64 n1, .int .i64 (accP sb), .int .i64 (accP sc), .int .i64 n2] → w'.cell? ⟨w3.heap.size, 0, none⟩ = some (.int .i64 n1) ∧ w'.cell? ⟨w3.heap.size, 1, none⟩ = some (.int .i64 (accP sb)) ∧ w'.cell? ⟨w3.heap.size, 2, none⟩ = some (.int .i64 (accP sc)) ∧ w'.cell? ⟨w3.heap.size, 3, none⟩ = some (.int .i64 n2) from fun w' h => ⟨h.cell 0, h.cell 1, h.cell 2, h.cell 3⟩)
  have HZ9 := Lib.hid (show Blk ((((W5.setCell ⟨w.heap.size, 0, none⟩ (.int .i64 n1)).setCell ⟨w.heap.size, 1, none⟩ (.int .i64 (accP sb))).setCell ⟨w.heap.size, 2, none⟩ (.int .i64 (accP sc))).setCell ⟨w.heap.size, 3, none⟩ (.int .i64 n2)) w.heap.size 78 #[.int .i64 n1, .int .i64 (accP sb), .int .i64 (accP sc), .int .i64 n2] by simpa using ((((HZ5.out.set_ 0 (.int .i64 n1)).set_ 1 (.int .i64 (accP sb))).set_ 2 (.int .i64 (accP sc))).set_ 3 (.int .i64 n2)))
  have HE9 := Lib.hid ((((HE5.out.far (p := ⟨w.heap.size, 0, none⟩) (Nat.ne_of_gt hlt3) (.int .i64 n1)).far (p := ⟨w.heap.size, 1, none⟩) (Nat.ne_of_gt hlt3) (.int .i64 (accP sb))).far (p := ⟨w.heap.size, 2, none⟩) (Nat.ne_of_gt hlt3) (.int .i64 (accP sc))).far (p := ⟨w.heap.size, 3, none⟩) (Nat.ne_of_gt hlt3) (.int .i64 n2))
  have HB9 := Lib.hid ((((HB5.out.setCell (p := ⟨w.heap.size, 0, none⟩) (Nat.le_refl _) (.int .i64 n1)).setCell (p := ⟨w.heap.size, 1, none⟩) (Nat.le_refl _) (.int .i64 (accP sb))).setCell (p := ⟨w.heap.size, 2, none⟩) (Nat.le_refl _) (.int .i64 (accP sc))).setCell (p := ⟨w.heap.size, 3, none⟩) (Nat.le_refl _) (.int .i64 n2))
  go_wp2
  go_cut [3] (fun t wx => ∃ b, t = .bool b ∧ Hid (b1 = true → b2 = true → b = entryB x) ∧ Hid (Blk wx w.heap.size 78 #[.int .i64 n1, .int .i64 (accP sb), .int .i64 (accP sc), .int .i64 n2]) ∧ Hid (Below w.heap.size w wx))
  case first =>
    cases b1
    · refine wp_region_held_drew (S := fun w' => w'.cell? ⟨w3.heap.size, 0, none⟩ = some (.int .i64 n1) ∧ w'.cell? ⟨w3.heap.size, 1, none⟩ = some (.int .i64 (accP sb)) ∧ w'.cell? ⟨w3.heap.size, 2, none⟩ = some (.int .i64 (accP sc)) ∧ w'.cell? ⟨w3.heap.size, 3, none⟩ = some (.int .i64 n2)) (by kernel_rfl) (HS.out _ HE5.out.drew) (fun hHeld => ?_)
      refine wpAnyH_take (i := 0) (oi := _) (v := .agg #[.int .i64 n1, .int .i64 (accP sb), .int .i64 (accP sc), .int .i64 n2]) rfl (by kernel_rfl) (by kernel_rfl) (by kernel_rfl) (fun _ _ _ h => h) (Or.inl ⟨by rfl, ?_⟩) hHeld ?_
      · intro u hSu
        go_simp
      simp only [Act.put, List.setIfInBounds_toArray]
      refine wpAnyH_take (i := 1) (oi := _) (v := .bool false) rfl (by kernel_rfl) (by kernel_rfl) (by kernel_rfl) (fun _ _ _ h => h) (Or.inl ⟨by rfl, ?_⟩) hHeld ?_
      · intro u hSu
        go_simp
      simp only [Act.put]
      refine wpAnyH_take (i := 2) (oi := _) (v := .bool false) rfl (by kernel_rfl) (by kernel_rfl) (by kernel_rfl) (fun _ _ _ h => h) (Or.inl ⟨by rfl, ?_⟩) hHeld ?_
      · intro u hSu
        go_simp
      simp only [Act.put]
      refine wpAnyH_take (i := 3) (oi := _) (v := undef) rfl (by kernel_rfl) (by kernel_rfl) (by kernel_rfl) (fun _ _ _ h => h) (Or.inr ⟨by rfl, rfl⟩) hHeld ?_
      simp only [Act.put]
      refine wpAnyH_take (i := 4) (oi := _) (v := .bool false) rfl (by kernel_rfl) (by kernel_rfl) (by kernel_rfl) (fun _ _ _ h => h) (Or.inl ⟨by rfl, ?_⟩) hHeld ?_
      · intro u hSu
        go_simp
      simp only [Act.put]
      refine wpAnyH_take (i := 5) (oi := _) (v := .bool false) rfl (by kernel_rfl) (by kernel_rfl) (by kernel_rfl) (fun _ _ _ h => h) (Or.inl ⟨by rfl, ?_⟩) hHeld ?_
      · intro u hSu
        go_simp
      simp only [Act.put]
      refine wpAnyH_take (i := 6) (oi := _) (v := undef) rfl (by kernel_rfl) (by kernel_rfl) (by kernel_rfl) (fun _ _ _ h => h) (Or.inr ⟨by rfl, rfl⟩) hHeld ?_
      simp only [Act.put]
      refine wpAnyH_take (i := 7) (oi := _) (v := undef) rfl (by kernel_rfl) (by kernel_rfl) (by kernel_rfl) (fun _ _ _ h => h) (Or.inr ⟨by rfl, rfl⟩) hHeld ?_
      simp only [Act.put]
      refine wpAnyH_take (i := 8) (oi := _) (v := .bool false) rfl (by kernel_rfl) (by kernel_rfl) (by kernel_rfl) (fun _ _ _ h => h) (Or.inl ⟨by rfl, ?_⟩) hHeld ?_
      · intro u hSu
        go_simp
      simp only [Act.put]
      refine wpAnyH_ready (rs := [9]) (by kernel_rfl) (by simp) ?_
      refine AllReadyH.cons (o := _) rfl (fun K hK => ?_) AllReadyH.nil
      go_simp
      refine hK.out _ _ ?_ (fun hHeld => ?_)
      · exact HS.out _ HE9.out.drew
      clear hK K
      refine wpAnyH_ready (rs := [10]) (by kernel_rfl) (by simp) ?_
      refine AllReadyH.cons (o := _) rfl (fun K hK => ?_) AllReadyH.nil
      go_simp
      refine hK.out _ _ ?_ (fun _ => ?_)
      · exact HS.out _ HE9.out.drew
      clear hK K
      refine wpAnyH_done (by kernel_rfl) ?_ _
      go_wp2_with fail
      go_meet
      exact ⟨false, rfl, Lib.hid (by simp), Lib.hid HZ9.out.drew, Lib.hid HB9.out.drew⟩
    cases b2
    · go_region_law (fail)
      all_goals go_wp2_with fail
      all_goals go_meet
      all_goals exact ⟨false, rfl, Lib.hid (by simp), Lib.hid HZ9.out.drew, Lib.hid HB9.out.drew⟩
    · go_region_held3 (fun w' => w'.cell? ⟨w3.heap.size, 0, none⟩ = some (.int .i64 n1) ∧ w'.cell? ⟨w3.heap.size, 1, none⟩ = some (.int .i64 (accP sb)) ∧ w'.cell? ⟨w3.heap.size, 2, none⟩ = some (.int .i64 (accP sc)) ∧ w'.cell? ⟨w3.heap.size, 3, none⟩ = some (.int .i64 n2)) (first | exact HS.out _ HE5.out.drew | exact HS.out _ HE6.out | exact HS.out _ HE7.out) (first | (go_at_call 129; with_reducible refine Calls.mono (HCE.out _) ?_; rintro e w6 ⟨rfl, hb6⟩; have HE6 := Lib.hid (HE5.out.drew.below' hb6); have HZ6 := Lib.hid (HZ5.out.drew.below' hb6); have HB6 := Lib.hid ((HB5.out.drew).trans (hb6.mono HB5.out.drew.size)); have HE7 := Lib.hid ((((HE6.out.far (p := ⟨w.heap.size, 0, none⟩) (Nat.ne_of_gt hlt3) (.int .i64 n1)).far (p := ⟨w.heap.size, 1, none⟩) (Nat.ne_of_gt hlt3) (.int .i64 (accP sb))).far (p := ⟨w.heap.size, 2, none⟩) (Nat.ne_of_gt hlt3) (.int .i64 (accP sc))).far (p := ⟨w.heap.size, 3, none⟩) (Nat.ne_of_gt hlt3) (.int .i64 n2)); have c0 := HZ6.out.cell 0; have c1 := HZ6.out.cell 1; have c2 := HZ6.out.cell 2; have c3 := HZ6.out.cell 3; have z0 := HZ6.out.frozen 0; have z1 := HZ6.out.frozen 1; have z2 := HZ6.out.frozen 2; have z3 := HZ6.out.frozen 3))
      all_goals go_wp2_with fail
      all_goals go_meet
      all_goals refine ⟨entryB x, rfl, Lib.hid (fun _ _ => rfl), Lib.hid (by simpa using ((((HZ6.out.set_ 0 (.int .i64 n1)).set_ 1 (.int .i64 (accP sb))).set_ 2 (.int .i64 (accP sc))).set_ 3 (.int .i64 n2))), Lib.hid ((((HB6.out.setCell (p := ⟨w.heap.size, 0, none⟩) (Nat.le_refl _) (.int .i64 n1)).setCell (p := ⟨w.heap.size, 1, none⟩) (Nat.le_refl _) (.int .i64 (accP sb))).setCell (p := ⟨w.heap.size, 2, none⟩) (Nat.le_refl _) (.int .i64 (accP sc))).setCell (p := ⟨w.heap.size, 3, none⟩) (Nat.le_refl _) (.int .i64 n2))⟩
  obtain ⟨b, rfl, HBE, HZX, HBX⟩ := hcut
  clear c0 c1 c2 c3 z0 z1 z2 z3 e0 e1 e2 e3
  have r0 : wc.cell? ⟨w.heap.size, 0, none⟩ = some (.int .i64 n1) := HZX.out.cell 0
  have r1 : wc.cell? ⟨w.heap.size, 1, none⟩ = some (.int .i64 (accP sb)) := HZX.out.cell 1
  have r2 : wc.cell? ⟨w.heap.size, 2, none⟩ = some (.int .i64 (accP sc)) := HZX.out.cell 2
  have r3 : wc.cell? ⟨w.heap.size, 3, none⟩ = some (.int .i64 n2) := HZX.out.cell 3
  go_wp2
  refine bodyPost_ret (v := .tuple #[.agg #[.int .i64 n1, .int .i64 (accP sb), .int .i64 (accP sc), .int .i64 n2], .bool b]) (by simp [results, Tryz.results63, go_sem, r0, r1, r2, r3]) rfl ?_
  exact ⟨x, b, by rw [HX.out]; rfl, HXF.out, fun y hy => (by
    obtain ⟨h1, h2, h3, h4⟩ := HR.out y hy
    exact ⟨h1, (HBE.out h2 h3).trans h4⟩), HBX.out⟩
end Go.Proofs.YtlbllonpodckgaaGreatDoor
