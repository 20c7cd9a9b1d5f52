/- Parts of a proof, one after another: Chg. No condition. -/
import Derived.Test.YtbjdbpdgacfcpaaGreatK0
import Derived.Test.YtbjdbpdgacfcpaaGreatK1
import Derived.Test.YtbjdbpdgacfcpaaGreatK3
import Derived.Test.YtbjdbpdgacfcpaaGreatK6
import Derived.Test.YtbjdbpdgacfcpaaGreatK7
/- Life tables and bases changed by a scenario: the program's and the reference's contracts. -/
section
namespace Go.Proofs.YtbjdbpdgacfcpaaGreat
open Go.RowKit Go.BigFrame

theorem Res.new1 {w : World} {B : Nat} (t : TypeId) (v : Value) (hB : B ≤ w.heap.size) : Res B (w.alloc (.cells #[v] t)) t 1 (some ⟨w.heap.size, 0, none⟩) 1 1 [[v]] :=
  ⟨⟨by simp, .inr ⟨w.heap.size, 1, #[v], rfl, hB, Blk.new w t #[v], Nat.le_refl _, by decide, by simp, by simp⟩⟩, rfl, by simp⟩
theorem chg_next {xs : List Int} {dt : Int} {k : Nat} (hk : k + 2 < xs.length) : chgAt xs dt (k + 1) = chgAt xs dt k - min (chgAt xs dt k) (ceilDiv (chgAt xs dt k * (lv xs k - lv xs (k + 1)) * (1000 + dt)) (1000 * lv xs k)) := by rw [chgAt, chgDead, if_pos hk]
theorem chg_list (xs : List Int) (dt : Int) (k : Nat) : intRows ((List.range (k + 1 + 1)).map (chgAt xs dt)) = intRows ((List.range (k + 1)).map (chgAt xs dt)) ++ [[Value.int .i64 (chgAt xs dt (k + 1))]] := by
  rw [List.range_succ (n := k + 1)]; simp [intRows]
theorem chg_more {xs : List Int} {dt : Int} {k n : Nat} (hl : xs.length = n) (hk : k + 1 ≤ n) (h2 : 2 ≤ n) (h : 0 < chgAt xs dt k) : k + 1 < n := by
  rcases Nat.lt_or_ge (k + 1) n with h1 | h1
  · exact h1
  · obtain ⟨j, rfl⟩ : ∃ j, k = j + 1 := ⟨k - 1, by omega⟩
    rw [chg_last (by omega)] at h; omega


set_option maxRecDepth 100000 in
set_option maxHeartbeats 8000000 in
theorem impl_changedTable_any (f : Int) (A : Option Addr) (n cap : Nat) (xs : List Int) (dt : Int) (w : World) (hT : LiesT w A n xs) (T : TabOk f xs) (hd : -500 ≤ dt ∧ dt ≤ 500) :
    Calls Tryz.prog 83 #[.agg #[.int .i64 f, .slice A n cap], .int .i64 dt] w fun e w' => ∃ A' c', e = .returned (.agg #[.int .i64 f, .slice A' (chgLen xs dt + 1) c']) ∧ Res w.heap.size w' 2 1 A' (chgLen xs dt + 1) c' (intRows (chgL xs dt)) ∧ Below w.heap.size w w' := by
  have hbw : Below w.heap.size w ((w.alloc (.cells #[.int .i64 f, .slice A n cap] 26)).alloc (.cells #[.int .i64 0, .slice none 0 0] 26)) := ((Below.refl _ w).alloc (Nat.le_refl _) _).alloc (by simp) _
  have HB := Lib.hid ((Blk.new w 26 #[.int .i64 f, .slice A n cap]).alloc (.cells #[.int .i64 0, .slice none 0 0] 26))
  have HO := Lib.hid (Blk.new (w.alloc (.cells #[.int .i64 f, .slice A n cap] 26)) 26 #[.int .i64 0, .slice none 0 0])
  simp only [World.size_alloc] at HO
  have HT := Lib.hid (hT.past hbw); clear hT
  have hn := HT.out.small
  have HLen := Lib.hid HT.out.len
  have hn2 : 2 ≤ n := by have := T.len0; have := HT.out.len; omega
  have hn120 : n ≤ 120 := by have := T.len1; have := HT.out.len; omega
  have hn0 : (0 : Int) < (n : Int) := by omega
  have hn00 : 0 < n := by omega
  obtain ⟨ad, hA, had, hc0⟩ := HT.out.at_ (k := 0) (by omega)
  subst hA
  rw [add_zero_at] at hc0
  have f0 := T.first0; have f1 := T.first1
  obtain ⟨d0, d1⟩ := hd
  have HCB := Lib.hid (chg_bound T ⟨d0, d1⟩)
  have HPT := Lib.hid (fun k (hk : k + 1 < n) => chg_parts T ⟨d0, d1⟩ (k := k) (by rw [HLen.out]; exact hk) (HCB.out k).1 (HCB.out k).2)
  have HTab := Lib.hid T
  clear T
  obtain ⟨i0, hi0, hz0, hz1, hz2⟩ := info_parts Int64.info
  have HI := Lib.hid (And.intro hi0 (And.intro hz0 (And.intro hz1 hz2))); clear hi0 hz0 hz1 hz2
  have HP := Lib.hid (fun w' (q : Below (w.heap.size + 2) ((w.alloc (.cells #[.int .i64 f, .slice (some ad) n cap] 26)).alloc (.cells #[.int .i64 0, .slice none 0 0] 26)) w') (o : Obj) => q.alloc (Nat.le_trans (by simp) q.size) o)
  have HD := Lib.hid ((Below.refl (w.heap.size + 2) ((w.alloc (.cells #[.int .i64 f, .slice (some ad) n cap] 26)).alloc (.cells #[.int .i64 0, .slice none 0 0] 26))).drew)
  have HS := Lib.hid (show ∀ w', Below (w.heap.size + 2) ((w.alloc (.cells #[.int .i64 f, .slice (some ad) n cap] 26)).alloc (.cells #[.int .i64 0, .slice none 0 0] 26)) w' → Below (w.heap.size + 2) ((w.alloc (.cells #[.int .i64 f, .slice (some ad) n cap] 26)).alloc (.cells #[.int .i64 0, .slice none 0 0] 26)) w' ∧ w'.cell? ⟨w.heap.size, 0, none⟩ = some (.int .i64 f) ∧ w'.cell? ⟨w.heap.size, 1, none⟩ = some (.slice (some ad) n cap) ∧ w'.cell? ad = some (.int .i64 (lv xs 0)) from fun w' q => by
    have HB' := HB.out.below q (by omega)
    exact ⟨q, HB'.cell 0, HB'.cell 1, (q.cell (p := ad) (by simpa using had)).trans hc0⟩)
  have HBW := Lib.hid (show ∀ w', Below (w.heap.size + 2) ((w.alloc (.cells #[.int .i64 f, .slice (some ad) n cap] 26)).alloc (.cells #[.int .i64 0, .slice none 0 0] 26)) w' → Below w.heap.size w w' from fun w' q => hbw.trans (q.mono (by omega)))
  have HTW := Lib.hid (show ∀ w', Below (w.heap.size + 2) ((w.alloc (.cells #[.int .i64 f, .slice (some ad) n cap] 26)).alloc (.cells #[.int .i64 0, .slice none 0 0] 26)) w' → LiesT w' (some ad) n xs from fun w' q => HT.out.past (by rw [show ((w.alloc (.cells #[.int .i64 f, .slice (some ad) n cap] 26)).alloc (.cells #[.int .i64 0, .slice none 0 0] 26)).heap.size = w.heap.size + 2 from by simp]; exact q))
  go_enter Tryz.func83, Tryz.ntmps83
  go_wp2
  go_region_held3 (fun w' => Below (w.heap.size + 2) ((w.alloc (.cells #[.int .i64 f, .slice (some ad) n cap] 26)).alloc (.cells #[.int .i64 0, .slice none 0 0] 26)) w' ∧ w'.cell? ⟨w.heap.size, 0, none⟩ = some (.int .i64 f) ∧ w'.cell? ⟨w.heap.size, 1, none⟩ = some (.slice (some ad) n cap) ∧ w'.cell? ad = some (.int .i64 (lv xs 0))) (first | exact HS.out _ (HP.out _ (HP.out _ HD.out _) _) | exact HS.out _ (HP.out _ HD.out _) | exact HS.out _ HD.out) (first | fail)

  · have HW := Lib.hid (show Blk ((((w.alloc (.cells #[.int .i64 f, .slice (some ad) n cap] 26)).alloc (.cells #[.int .i64 0, .slice none 0 0] 26)).alloc (.cells #[.int .i64 (lv xs 0)] 2)).alloc (.cells #[.int .i64 f, .slice (some ⟨w.heap.size + 1 + 1, 0, none⟩) 1 1] 26)).drew (w.heap.size + 1 + 1 + 1) 26 #[.int .i64 f, .slice (some ⟨w.heap.size + 1 + 1, 0, none⟩) 1 1] ∧ Res (w.heap.size + 2) ((((w.alloc (.cells #[.int .i64 f, .slice (some ad) n cap] 26)).alloc (.cells #[.int .i64 0, .slice none 0 0] 26)).alloc (.cells #[.int .i64 (lv xs 0)] 2)).alloc (.cells #[.int .i64 f, .slice (some ⟨w.heap.size + 1 + 1, 0, none⟩) 1 1] 26)).drew 2 1 (some ⟨w.heap.size + 1 + 1, 0, none⟩) 1 1 (intRows ((List.range 1).map (chgAt xs dt))) ∧ Below (w.heap.size + 2) ((w.alloc (.cells #[.int .i64 f, .slice (some ad) n cap] 26)).alloc (.cells #[.int .i64 0, .slice none 0 0] 26)) ((((w.alloc (.cells #[.int .i64 f, .slice (some ad) n cap] 26)).alloc (.cells #[.int .i64 0, .slice none 0 0] 26)).alloc (.cells #[.int .i64 (lv xs 0)] 2)).alloc (.cells #[.int .i64 f, .slice (some ⟨w.heap.size + 1 + 1, 0, none⟩) 1 1] 26)).drew from ⟨by have h := (Blk.new (((w.alloc (.cells #[.int .i64 f, .slice (some ad) n cap] 26)).alloc (.cells #[.int .i64 0, .slice none 0 0] 26)).alloc (.cells #[.int .i64 (lv xs 0)] 2)) 26 #[.int .i64 f, .slice (some ⟨w.heap.size + 1 + 1, 0, none⟩) 1 1]).drew; simpa using h, (by have h := ((Res.new1 (w := ((w.alloc (.cells #[.int .i64 f, .slice (some ad) n cap] 26)).alloc (.cells #[.int .i64 0, .slice none 0 0] 26))) (B := w.heap.size + 2) 2 (.int .i64 (lv xs 0)) (by simp)).past ((Below.refl _ _).alloc (Nat.le_refl _) (.cells #[.int .i64 f, .slice (some ⟨w.heap.size + 1 + 1, 0, none⟩) 1 1] 26))).drew; simpa [intRows, chgAt] using h), (((Below.refl _ _).alloc (by simp) _).alloc (by simp <;> omega) _).drew⟩)
    generalize ((((w.alloc (.cells #[.int .i64 f, .slice (some ad) n cap] 26)).alloc (.cells #[.int .i64 0, .slice none 0 0] 26)).alloc (.cells #[.int .i64 (lv xs 0)] 2)).alloc (.cells #[.int .i64 f, .slice (some ⟨w.heap.size + 1 + 1, 0, none⟩) 1 1] 26)).drew = w2 at HW ⊢
    obtain ⟨hO2, hR2, hb2⟩ := HW.out
    have HO2 := Lib.hid hO2; have HR2 := Lib.hid hR2; have HB2 := Lib.hid hb2
    clear HW hO2 hR2 hb2
    obtain ⟨_, c0, c1, c2⟩ := HS.out _ HB2.out
    go_wp2
    go_loopw [6, 7] (fun l a wr => ∃ (k : Nat) (A' : Option Addr) (c' : Nat), k + 1 ≤ n ∧ a = .int .i64 (f + (k : Int)) ∧ l = .int .i64 (chgAt xs dt k) ∧ Hid (∀ j : Nat, j < k → 0 < chgAt xs dt j) ∧ Hid (Blk wr (w.heap.size + 1 + 1 + 1) 26 #[.int .i64 f, .slice A' (k + 1) c']) ∧ Hid (Res (w.heap.size + 2) wr 2 1 A' (k + 1) c' (intRows ((List.range (k + 1)).map (chgAt xs dt)))) ∧ Hid (blkOf A' ≠ some (w.heap.size + 1 + 1 + 1)) ∧ Hid (Below (w.heap.size + 2) ((w.alloc (.cells #[.int .i64 f, .slice (some ad) n cap] 26)).alloc (.cells #[.int .i64 0, .slice none 0 0] 26)) wr)) (fun _ a _ => (f + (n : Int) - intOf a).toNat)
    case atStart => exact ⟨0, some ⟨w.heap.size + 1 + 1, 0, none⟩, 1, by omega, (by simp), rfl, Lib.hid (fun j hj => by omega), HO2, HR2, Lib.hid (by unfold blkOf; simp), HB2⟩
    case round =>
      obtain ⟨k, A', c', hk, rfl, rfl, HL, HOr, HRr, HNE, HBr⟩ := hrel
      clear c0 c1 c2 HO2 HR2 HB2
      have hcb := HCB.out k
      obtain ⟨cb0, cb1⟩ := hcb
      have hsr : w.heap.size + 2 ≤ wr.heap.size := Nat.le_trans (by simp) HBr.out.size
      by_cases hpos : 0 < chgAt xs dt k
      rotate_left
      · have HLn := Lib.hid (chg_len (xs := xs) (dt := dt) (k := k) (by rw [HLen.out]; omega) HL.out (by omega))
        have hcO := Lib.hid (Blk.agg (cs := [.int .i64 f, .slice A' (k + 1) c']) HOr.out 0 [.int .i64 f, .slice A' (k + 1) c'] rfl)
        have HCr := Lib.hid (HO.out.below HBr.out (by omega))
        have H1 : Hid (∀ v ∈ ([.int .i64 f, .slice A' (k + 1) c'] : List Value), v.oneCell' = true) := Lib.hid (by simp [Value.oneCell'])
        go_wp2_with (first | (refine wpList_load_agg rfl 26 _ rfl ⟨w.heap.size + 1 + 1 + 1, 0, none⟩ rfl [.int .i64 f, .slice A' (k + 1) c'] hcO.out _ Tryz.underlying26 rfl Tab.size ?_) | (refine wpList_store_agg rfl 26 _ _ rfl (w.heap.size + 1) 0 [.int .i64 f, .slice A' (k + 1) c'] rfl rfl 26 #[.int .i64 0, .slice none 0 0] HCr.out Tab.size (by simp) H1.out ?_))
        intro w6 hR6 hg6 _
        have hR6' : Blk w6 (w.heap.size + 1) 26 #[.int .i64 f, .slice A' (k + 1) c'] := hR6
        have r0 : w6.cell? ⟨w.heap.size + 1, 0, none⟩ = some (.int .i64 f) := hR6'.cell 0
        have r1 : w6.cell? ⟨w.heap.size + 1, 1, none⟩ = some (.slice A' (k + 1) c') := hR6'.cell 1
        go_wp2
        refine bodyPost_ret (v := .agg #[.int .i64 f, .slice A' (k + 1) c']) (by simp [results, Tryz.results83, go_sem, r0, r1]) rfl ⟨A', c', by rw [HLn.out], ?_, (HBW.out _ HBr.out).grown hg6 (by have := (HBW.out _ HBr.out).size; omega) (fun k hk => by injection hk with hk; omega)⟩
        rw [HLn.out, chgL, HLn.out]
        refine Res.more (B := w.heap.size + 2) (HRr.out.keep fun g' hg' => ?_) (by omega)
        exact hg6.block g' (HRr.out.lt hg').2 (by have := (HRr.out.lt hg').1; intro h; injection h with h; omega)
      have hk2 := chg_more (xs := xs) (dt := dt) HLen.out hk hn2 hpos
      obtain ⟨⟨p1, p2⟩, ⟨p3, p4⟩, ⟨p5, p6⟩, ⟨p7, p8⟩, p9, p10⟩ := HPT.out k hk2
      have HQ0 := Lib.hid (HCB.out (k + 1))
      have HNXT := Lib.hid (show chgAt xs dt (k + 1) = chgAt xs dt k - chgDead xs dt k (chgAt xs dt k) by rw [chgAt])
      by_cases hl2 : k + 2 < n
      · have HE := Lib.hid (chg_next (dt := dt) (show k + 2 < xs.length by rw [HLen.out]; exact hl2))
        have hl1 := HTab.out.pos (k + 1) (by have := HLen.out; omega)
        have hlz : (lv xs (k + 1) == 0) = false := by simp; omega
        have hm0 : 0 ≤ chgAt xs dt k - min (chgAt xs dt k) (ceilDiv (chgAt xs dt k * (lv xs k - lv xs (k + 1)) * (1000 + dt)) (1000 * lv xs k)) := by rw [← HE.out]; exact HQ0.out.1
        have hm1 : chgAt xs dt k - min (chgAt xs dt k) (ceilDiv (chgAt xs dt k * (lv xs k - lv xs (k + 1)) * (1000 + dt)) (1000 * lv xs k)) ≤ 1000000 := by rw [← HE.out]; exact HQ0.out.2
        have HTr := Lib.hid (HTW.out _ HBr.out)
        have HBb := Lib.hid (HB.out.below HBr.out (by omega))
        have hcT := Lib.hid (Blk.agg_past (cs := [.int .i64 f, .slice (some ad) n cap]) HBb.out 0 [.int .i64 f, .slice (some ad) n cap] rfl)
        have HEk := Lib.hid (show (f + (k : Int) - f).toNat = k by omega)
        have HEk1 := Lib.hid (show (f + (k : Int) + 1 - f).toNat = k + 1 by omega)
        go_wp2
        refine wp_region_past_tail 14 (by kernel_rfl) (by kernel_rfl) ?_
        simp only [List.take_succ_cons, List.take_zero, List.drop_succ_cons, List.drop_zero]
        repeat (first | (go_big_quiet_want; (first | (refine quiet_load_agg 26 _ rfl ⟨w.heap.size, 0, none⟩ rfl [.int .i64 f, .slice (some ad) n cap] hcT.out _ Tryz.underlying26 rfl Tab.size ?_)); go_simp; go_big_quiet_on) | go_big_quiet_step ((first | (go_at_call 111; exact past_call ((impl_LifeTable_deaths_any f (some ad) n cap xs (f + (k : Int)) _ (HTr.out.past (Subtype.property _)) HTab.out ⟨by omega, by omega⟩).mono (by rw [HEk.out]; exact fun _ _ h => h))) | (go_at_call 112; exact past_call ((impl_LifeTable_lives_any f (some ad) n cap xs (f + (k : Int)) _ (HTr.out.past (Subtype.property _)) HTab.out ⟨by omega, by omega⟩).mono (by rw [HEk.out]; exact fun _ _ h => h))) | (go_at_call 125; exact past_same (impl_up_any _ _ _ (by omega) (by omega) (by omega) (by omega))))))
        refine wpQuiet_nil ?_
        rintro _ ⟨y, rfl⟩
        have hby := HBr.out.trans (y.2.mono hsr)
        have HTy := Lib.hid (HTW.out _ hby)
        have hcY := Lib.hid (Blk.agg (cs := [.int .i64 f, .slice (some ad) n cap]) (HB.out.below hby (by omega)) 0 [.int .i64 f, .slice (some ad) n cap] rfl)
        go_wp2_with (refine wpList_load_agg rfl 26 _ rfl ⟨w.heap.size, 0, none⟩ rfl [.int .i64 f, .slice (some ad) n cap] hcY.out _ Tryz.underlying26 rfl Tab.size ?_)
        refine (impl_LifeTable_lives_any f (some ad) n cap xs (f + (k : Int) + 1) _ HTy.out HTab.out ⟨by omega, by omega⟩).mono ?_
        rw [HEk1.out]
        rintro e w3 ⟨rfl, hb3⟩
        have HBy := Lib.hid (hby.trans (hb3.mono (Nat.le_trans hsr y.2.size)))
        have hw3 := below_step y.2 hb3
        have HOy := Lib.hid (HOr.out.below' hw3)
        have HRy := Lib.hid (HRr.out.past hw3)
        have hsy : w.heap.size + 2 ≤ w3.heap.size := Nat.le_trans hsr hw3.size
        have y1 : w3.cell? ⟨w.heap.size + 1 + 1 + 1, 1, none⟩ = some (.slice A' (k + 1) c') := HOy.out.cell 1
        go_upto_region 10 with (fail)
        rw [← HE.out]
        go_wp2_with (at_builtin; refine wpList_append_row_at w3 rfl (.tmp 52) (.tmp 54) 24 rfl (w.heap.size + 2) 2 i0 _ 1 8 Tryz.underlying24 HI.out.1 HI.out.2.1 HI.out.2.2.1 HI.out.2.2.2 rfl (by decide) (by decide) A' (k + 1) c' _ rfl HRy.out [.int .i64 (chgAt xs dt (k + 1))] _ rfl rfl (by simp [Value.oneCell']) (by omega) hsy ?_)
        intro A2 c2 w4 hR4 hb4 hk4 hA4
        have HR4 := Lib.hid hR4; clear hR4
        have HO4 := Lib.hid (HOy.out.kept hk4 (fun h => HNE.out h.symm))
        have HB4 := Lib.hid (HBy.out.trans hb4)
        have HNE4 : Hid (blkOf A2 ≠ some (w.heap.size + 1 + 1 + 1)) := Lib.hid (by
          rcases hA4 with h | h
          · rw [h]; exact HNE.out
          · have hlt := HOy.out.lt; rw [h]; intro h9; injection h9 with h9; omega)
        clear hk4 hA4 hb4
        have z1 : w4.cell? ⟨w.heap.size + 1 + 1 + 1, 1, none⟩ = some (.slice A' (k + 1) c') := HO4.out.cell 1
        have z2 : w4.frozen? ⟨w.heap.size + 1 + 1 + 1, 1, none⟩ = false := HO4.out.frozen 1
        go_wp2
        go_roundw
        case rel =>
          refine ⟨k + 1, A2, c2, by omega, (by first | go_num | (congr 1; omega)), rfl, Lib.hid (fun j hj => ?_), Lib.hid (by simpa using HO4.out.set_ 1 (.slice A2 (k + 1 + 1) c2)), Lib.hid ?_, HNE4, Lib.hid (HB4.out.setCell (Nat.le_trans (show w.heap.size + 2 ≤ w.heap.size + 1 + 1 + 1 by omega) (Nat.le_refl _)) _)⟩
          · rcases Nat.lt_or_ge j k with h | h
            · exact HL.out j h
            · rw [show j = k by omega]; exact hpos
          · rw [chg_list]
            have h8 := HR4.out
            simp only [List.range_succ, List.map_append, List.map_cons, List.map_nil] at h8 ⊢
            refine h8.keep fun g' hg' => Below.heap_setCell _ _ _ _ (fun h => HNE4.out ?_)
            rw [hg']; exact congrArg some h
        case measure => simp [intOf]; omega
      · have HE := Lib.hid (show chgAt xs dt (k + 1) = 0 by rw [HNXT.out, chgDead, if_neg (by rw [HLen.out]; exact hl2)]; omega)
        have hl1 := HTab.out.zero (k + 1) (by have := HLen.out; omega)
        have hlz : (lv xs (k + 1) == 0) = true := by simp [hl1]
        clear hl1
        have HTr := Lib.hid (HTW.out _ HBr.out)
        have HBb := Lib.hid (HB.out.below HBr.out (by omega))
        have hcT := Lib.hid (Blk.agg_past (cs := [.int .i64 f, .slice (some ad) n cap]) HBb.out 0 [.int .i64 f, .slice (some ad) n cap] rfl)
        have HEk := Lib.hid (show (f + (k : Int) - f).toNat = k by omega)
        have HEk1 := Lib.hid (show (f + (k : Int) + 1 - f).toNat = k + 1 by omega)
        go_wp2
        refine wp_region_past_tail 14 (by kernel_rfl) (by kernel_rfl) ?_
        simp only [List.take_succ_cons, List.take_zero, List.drop_succ_cons, List.drop_zero]
        repeat (first | (go_big_quiet_want; (first | (refine quiet_load_agg 26 _ rfl ⟨w.heap.size, 0, none⟩ rfl [.int .i64 f, .slice (some ad) n cap] hcT.out _ Tryz.underlying26 rfl Tab.size ?_)); go_simp; go_big_quiet_on) | go_big_quiet_step ((first | (go_at_call 111; exact past_call ((impl_LifeTable_deaths_any f (some ad) n cap xs (f + (k : Int)) _ (HTr.out.past (Subtype.property _)) HTab.out ⟨by omega, by omega⟩).mono (by rw [HEk.out]; exact fun _ _ h => h))) | (go_at_call 112; exact past_call ((impl_LifeTable_lives_any f (some ad) n cap xs (f + (k : Int)) _ (HTr.out.past (Subtype.property _)) HTab.out ⟨by omega, by omega⟩).mono (by rw [HEk.out]; exact fun _ _ h => h))) | (go_at_call 125; exact past_same (impl_up_any _ _ _ (by omega) (by omega) (by omega) (by omega))))))
        refine wpQuiet_nil ?_
        rintro _ ⟨y, rfl⟩
        have hby := HBr.out.trans (y.2.mono hsr)
        have HTy := Lib.hid (HTW.out _ hby)
        have hcY := Lib.hid (Blk.agg (cs := [.int .i64 f, .slice (some ad) n cap]) (HB.out.below hby (by omega)) 0 [.int .i64 f, .slice (some ad) n cap] rfl)
        go_wp2_with (refine wpList_load_agg rfl 26 _ rfl ⟨w.heap.size, 0, none⟩ rfl [.int .i64 f, .slice (some ad) n cap] hcY.out _ Tryz.underlying26 rfl Tab.size ?_)
        refine (impl_LifeTable_lives_any f (some ad) n cap xs (f + (k : Int) + 1) _ HTy.out HTab.out ⟨by omega, by omega⟩).mono ?_
        rw [HEk1.out]
        rintro e w3 ⟨rfl, hb3⟩
        have HBy := Lib.hid (hby.trans (hb3.mono (Nat.le_trans hsr y.2.size)))
        have hw3 := below_step y.2 hb3
        have HOy := Lib.hid (HOr.out.below' hw3)
        have HRy := Lib.hid (HRr.out.past hw3)
        have hsy : w.heap.size + 2 ≤ w3.heap.size := Nat.le_trans hsr hw3.size
        have y1 : w3.cell? ⟨w.heap.size + 1 + 1 + 1, 1, none⟩ = some (.slice A' (k + 1) c') := HOy.out.cell 1
        go_upto_region 10 with (fail)
        go_wp2_with (at_builtin; refine wpList_append_row_at w3 rfl (.tmp 52) (.tmp 54) 24 rfl (w.heap.size + 2) 2 i0 _ 1 8 Tryz.underlying24 HI.out.1 HI.out.2.1 HI.out.2.2.1 HI.out.2.2.2 rfl (by decide) (by decide) A' (k + 1) c' _ rfl HRy.out [.int .i64 0] _ rfl rfl (by simp [Value.oneCell']) (by omega) hsy ?_)
        intro A2 c2 w4 hR4 hb4 hk4 hA4
        have HR4 := Lib.hid hR4; clear hR4
        have HO4 := Lib.hid (HOy.out.kept hk4 (fun h => HNE.out h.symm))
        have HB4 := Lib.hid (HBy.out.trans hb4)
        have HNE4 : Hid (blkOf A2 ≠ some (w.heap.size + 1 + 1 + 1)) := Lib.hid (by
          rcases hA4 with h | h
          · rw [h]; exact HNE.out
          · have hlt := HOy.out.lt; rw [h]; intro h9; injection h9 with h9; omega)
        clear hk4 hA4 hb4
        have z1 : w4.cell? ⟨w.heap.size + 1 + 1 + 1, 1, none⟩ = some (.slice A' (k + 1) c') := HO4.out.cell 1
        have z2 : w4.frozen? ⟨w.heap.size + 1 + 1 + 1, 1, none⟩ = false := HO4.out.frozen 1
        go_wp2
        go_roundw
        case rel =>
          refine ⟨k + 1, A2, c2, by omega, (by first | go_num | (congr 1; omega)), by rw [HE.out], Lib.hid (fun j hj => ?_), Lib.hid (by simpa using HO4.out.set_ 1 (.slice A2 (k + 1 + 1) c2)), Lib.hid ?_, HNE4, Lib.hid (HB4.out.setCell (Nat.le_trans (show w.heap.size + 2 ≤ w.heap.size + 1 + 1 + 1 by omega) (Nat.le_refl _)) _)⟩
          · rcases Nat.lt_or_ge j k with h | h
            · exact HL.out j h
            · rw [show j = k by omega]; exact hpos
          · rw [chg_list, HE.out]
            have h8 := HR4.out
            simp only [List.range_succ, List.map_append, List.map_cons, List.map_nil] at h8 ⊢
            refine h8.keep fun g' hg' => Below.heap_setCell _ _ _ _ (fun h => HNE4.out ?_)
            rw [hg']; exact congrArg some h
        case measure => simp [intOf]; omega

  · have HW := Lib.hid (show Blk ((((w.alloc (.cells #[.int .i64 f, .slice (some ad) n cap] 26)).alloc (.cells #[.int .i64 0, .slice none 0 0] 26)).alloc (.cells #[.int .i64 f, .slice (some ⟨w.heap.size + 1 + 1 + 1, 0, none⟩) 1 1] 26)).alloc (.cells #[.int .i64 (lv xs 0)] 2)).drew (w.heap.size + 1 + 1) 26 #[.int .i64 f, .slice (some ⟨w.heap.size + 1 + 1 + 1, 0, none⟩) 1 1] ∧ Res (w.heap.size + 2) ((((w.alloc (.cells #[.int .i64 f, .slice (some ad) n cap] 26)).alloc (.cells #[.int .i64 0, .slice none 0 0] 26)).alloc (.cells #[.int .i64 f, .slice (some ⟨w.heap.size + 1 + 1 + 1, 0, none⟩) 1 1] 26)).alloc (.cells #[.int .i64 (lv xs 0)] 2)).drew 2 1 (some ⟨w.heap.size + 1 + 1 + 1, 0, none⟩) 1 1 (intRows ((List.range 1).map (chgAt xs dt))) ∧ Below (w.heap.size + 2) ((w.alloc (.cells #[.int .i64 f, .slice (some ad) n cap] 26)).alloc (.cells #[.int .i64 0, .slice none 0 0] 26)) ((((w.alloc (.cells #[.int .i64 f, .slice (some ad) n cap] 26)).alloc (.cells #[.int .i64 0, .slice none 0 0] 26)).alloc (.cells #[.int .i64 f, .slice (some ⟨w.heap.size + 1 + 1 + 1, 0, none⟩) 1 1] 26)).alloc (.cells #[.int .i64 (lv xs 0)] 2)).drew from ⟨by have h := ((Blk.new ((w.alloc (.cells #[.int .i64 f, .slice (some ad) n cap] 26)).alloc (.cells #[.int .i64 0, .slice none 0 0] 26)) 26 #[.int .i64 f, .slice (some ⟨w.heap.size + 1 + 1 + 1, 0, none⟩) 1 1]).alloc (.cells #[.int .i64 (lv xs 0)] 2)).drew; simpa using h, (by have h := (Res.new1 (w := (((w.alloc (.cells #[.int .i64 f, .slice (some ad) n cap] 26)).alloc (.cells #[.int .i64 0, .slice none 0 0] 26)).alloc (.cells #[.int .i64 f, .slice (some ⟨w.heap.size + 1 + 1 + 1, 0, none⟩) 1 1] 26))) (B := w.heap.size + 2) 2 (.int .i64 (lv xs 0)) (by simp <;> omega)).drew; simpa [intRows, chgAt] using h), (((Below.refl _ _).alloc (by simp) _).alloc (by simp <;> omega) _).drew⟩)
    generalize ((((w.alloc (.cells #[.int .i64 f, .slice (some ad) n cap] 26)).alloc (.cells #[.int .i64 0, .slice none 0 0] 26)).alloc (.cells #[.int .i64 f, .slice (some ⟨w.heap.size + 1 + 1 + 1, 0, none⟩) 1 1] 26)).alloc (.cells #[.int .i64 (lv xs 0)] 2)).drew = w2 at HW ⊢
    obtain ⟨hO2, hR2, hb2⟩ := HW.out
    have HO2 := Lib.hid hO2; have HR2 := Lib.hid hR2; have HB2 := Lib.hid hb2
    clear HW hO2 hR2 hb2
    obtain ⟨_, c0, c1, c2⟩ := HS.out _ HB2.out
    go_wp2
    go_loopw [6, 7] (fun l a wr => ∃ (k : Nat) (A' : Option Addr) (c' : Nat), k + 1 ≤ n ∧ a = .int .i64 (f + (k : Int)) ∧ l = .int .i64 (chgAt xs dt k) ∧ Hid (∀ j : Nat, j < k → 0 < chgAt xs dt j) ∧ Hid (Blk wr (w.heap.size + 1 + 1) 26 #[.int .i64 f, .slice A' (k + 1) c']) ∧ Hid (Res (w.heap.size + 2) wr 2 1 A' (k + 1) c' (intRows ((List.range (k + 1)).map (chgAt xs dt)))) ∧ Hid (blkOf A' ≠ some (w.heap.size + 1 + 1)) ∧ Hid (Below (w.heap.size + 2) ((w.alloc (.cells #[.int .i64 f, .slice (some ad) n cap] 26)).alloc (.cells #[.int .i64 0, .slice none 0 0] 26)) wr)) (fun _ a _ => (f + (n : Int) - intOf a).toNat)
    case atStart => exact ⟨0, some ⟨w.heap.size + 1 + 1 + 1, 0, none⟩, 1, by omega, (by simp), rfl, Lib.hid (fun j hj => by omega), HO2, HR2, Lib.hid (by unfold blkOf; simp), HB2⟩
    case round =>
      obtain ⟨k, A', c', hk, rfl, rfl, HL, HOr, HRr, HNE, HBr⟩ := hrel
      clear c0 c1 c2 HO2 HR2 HB2
      have hcb := HCB.out k
      obtain ⟨cb0, cb1⟩ := hcb
      have hsr : w.heap.size + 2 ≤ wr.heap.size := Nat.le_trans (by simp) HBr.out.size
      by_cases hpos : 0 < chgAt xs dt k
      rotate_left
      · have HLn := Lib.hid (chg_len (xs := xs) (dt := dt) (k := k) (by rw [HLen.out]; omega) HL.out (by omega))
        have hcO := Lib.hid (Blk.agg (cs := [.int .i64 f, .slice A' (k + 1) c']) HOr.out 0 [.int .i64 f, .slice A' (k + 1) c'] rfl)
        have HCr := Lib.hid (HO.out.below HBr.out (by omega))
        have H1 : Hid (∀ v ∈ ([.int .i64 f, .slice A' (k + 1) c'] : List Value), v.oneCell' = true) := Lib.hid (by simp [Value.oneCell'])
        go_wp2_with (first | (refine wpList_load_agg rfl 26 _ rfl ⟨w.heap.size + 1 + 1, 0, none⟩ rfl [.int .i64 f, .slice A' (k + 1) c'] hcO.out _ Tryz.underlying26 rfl Tab.size ?_) | (refine wpList_store_agg rfl 26 _ _ rfl (w.heap.size + 1) 0 [.int .i64 f, .slice A' (k + 1) c'] rfl rfl 26 #[.int .i64 0, .slice none 0 0] HCr.out Tab.size (by simp) H1.out ?_))
        intro w6 hR6 hg6 _
        have hR6' : Blk w6 (w.heap.size + 1) 26 #[.int .i64 f, .slice A' (k + 1) c'] := hR6
        have r0 : w6.cell? ⟨w.heap.size + 1, 0, none⟩ = some (.int .i64 f) := hR6'.cell 0
        have r1 : w6.cell? ⟨w.heap.size + 1, 1, none⟩ = some (.slice A' (k + 1) c') := hR6'.cell 1
        go_wp2
        refine bodyPost_ret (v := .agg #[.int .i64 f, .slice A' (k + 1) c']) (by simp [results, Tryz.results83, go_sem, r0, r1]) rfl ⟨A', c', by rw [HLn.out], ?_, (HBW.out _ HBr.out).grown hg6 (by have := (HBW.out _ HBr.out).size; omega) (fun k hk => by injection hk with hk; omega)⟩
        rw [HLn.out, chgL, HLn.out]
        refine Res.more (B := w.heap.size + 2) (HRr.out.keep fun g' hg' => ?_) (by omega)
        exact hg6.block g' (HRr.out.lt hg').2 (by have := (HRr.out.lt hg').1; intro h; injection h with h; omega)
      have hk2 := chg_more (xs := xs) (dt := dt) HLen.out hk hn2 hpos
      obtain ⟨⟨p1, p2⟩, ⟨p3, p4⟩, ⟨p5, p6⟩, ⟨p7, p8⟩, p9, p10⟩ := HPT.out k hk2
      have HQ0 := Lib.hid (HCB.out (k + 1))
      have HNXT := Lib.hid (show chgAt xs dt (k + 1) = chgAt xs dt k - chgDead xs dt k (chgAt xs dt k) by rw [chgAt])
      by_cases hl2 : k + 2 < n
      · have HE := Lib.hid (chg_next (dt := dt) (show k + 2 < xs.length by rw [HLen.out]; exact hl2))
        have hl1 := HTab.out.pos (k + 1) (by have := HLen.out; omega)
        have hlz : (lv xs (k + 1) == 0) = false := by simp; omega
        have hm0 : 0 ≤ chgAt xs dt k - min (chgAt xs dt k) (ceilDiv (chgAt xs dt k * (lv xs k - lv xs (k + 1)) * (1000 + dt)) (1000 * lv xs k)) := by rw [← HE.out]; exact HQ0.out.1
        have hm1 : chgAt xs dt k - min (chgAt xs dt k) (ceilDiv (chgAt xs dt k * (lv xs k - lv xs (k + 1)) * (1000 + dt)) (1000 * lv xs k)) ≤ 1000000 := by rw [← HE.out]; exact HQ0.out.2
        have HTr := Lib.hid (HTW.out _ HBr.out)
        have HBb := Lib.hid (HB.out.below HBr.out (by omega))
        have hcT := Lib.hid (Blk.agg_past (cs := [.int .i64 f, .slice (some ad) n cap]) HBb.out 0 [.int .i64 f, .slice (some ad) n cap] rfl)
        have HEk := Lib.hid (show (f + (k : Int) - f).toNat = k by omega)
        have HEk1 := Lib.hid (show (f + (k : Int) + 1 - f).toNat = k + 1 by omega)
        go_wp2
        refine wp_region_past_tail 14 (by kernel_rfl) (by kernel_rfl) ?_
        simp only [List.take_succ_cons, List.take_zero, List.drop_succ_cons, List.drop_zero]
        repeat (first | (go_big_quiet_want; (first | (refine quiet_load_agg 26 _ rfl ⟨w.heap.size, 0, none⟩ rfl [.int .i64 f, .slice (some ad) n cap] hcT.out _ Tryz.underlying26 rfl Tab.size ?_)); go_simp; go_big_quiet_on) | go_big_quiet_step ((first | (go_at_call 111; exact past_call ((impl_LifeTable_deaths_any f (some ad) n cap xs (f + (k : Int)) _ (HTr.out.past (Subtype.property _)) HTab.out ⟨by omega, by omega⟩).mono (by rw [HEk.out]; exact fun _ _ h => h))) | (go_at_call 112; exact past_call ((impl_LifeTable_lives_any f (some ad) n cap xs (f + (k : Int)) _ (HTr.out.past (Subtype.property _)) HTab.out ⟨by omega, by omega⟩).mono (by rw [HEk.out]; exact fun _ _ h => h))) | (go_at_call 125; exact past_same (impl_up_any _ _ _ (by omega) (by omega) (by omega) (by omega))))))
        refine wpQuiet_nil ?_
        rintro _ ⟨y, rfl⟩
        have hby := HBr.out.trans (y.2.mono hsr)
        have HTy := Lib.hid (HTW.out _ hby)
        have hcY := Lib.hid (Blk.agg (cs := [.int .i64 f, .slice (some ad) n cap]) (HB.out.below hby (by omega)) 0 [.int .i64 f, .slice (some ad) n cap] rfl)
        go_wp2_with (refine wpList_load_agg rfl 26 _ rfl ⟨w.heap.size, 0, none⟩ rfl [.int .i64 f, .slice (some ad) n cap] hcY.out _ Tryz.underlying26 rfl Tab.size ?_)
        refine (impl_LifeTable_lives_any f (some ad) n cap xs (f + (k : Int) + 1) _ HTy.out HTab.out ⟨by omega, by omega⟩).mono ?_
        rw [HEk1.out]
        rintro e w3 ⟨rfl, hb3⟩
        have HBy := Lib.hid (hby.trans (hb3.mono (Nat.le_trans hsr y.2.size)))
        have hw3 := below_step y.2 hb3
        have HOy := Lib.hid (HOr.out.below' hw3)
        have HRy := Lib.hid (HRr.out.past hw3)
        have hsy : w.heap.size + 2 ≤ w3.heap.size := Nat.le_trans hsr hw3.size
        have y1 : w3.cell? ⟨w.heap.size + 1 + 1, 1, none⟩ = some (.slice A' (k + 1) c') := HOy.out.cell 1
        go_upto_region 10 with (fail)
        rw [← HE.out]
        go_wp2_with (at_builtin; refine wpList_append_row_at w3 rfl (.tmp 52) (.tmp 54) 24 rfl (w.heap.size + 2) 2 i0 _ 1 8 Tryz.underlying24 HI.out.1 HI.out.2.1 HI.out.2.2.1 HI.out.2.2.2 rfl (by decide) (by decide) A' (k + 1) c' _ rfl HRy.out [.int .i64 (chgAt xs dt (k + 1))] _ rfl rfl (by simp [Value.oneCell']) (by omega) hsy ?_)
        intro A2 c2 w4 hR4 hb4 hk4 hA4
        have HR4 := Lib.hid hR4; clear hR4
        have HO4 := Lib.hid (HOy.out.kept hk4 (fun h => HNE.out h.symm))
        have HB4 := Lib.hid (HBy.out.trans hb4)
        have HNE4 : Hid (blkOf A2 ≠ some (w.heap.size + 1 + 1)) := Lib.hid (by
          rcases hA4 with h | h
          · rw [h]; exact HNE.out
          · have hlt := HOy.out.lt; rw [h]; intro h9; injection h9 with h9; omega)
        clear hk4 hA4 hb4
        have z1 : w4.cell? ⟨w.heap.size + 1 + 1, 1, none⟩ = some (.slice A' (k + 1) c') := HO4.out.cell 1
        have z2 : w4.frozen? ⟨w.heap.size + 1 + 1, 1, none⟩ = false := HO4.out.frozen 1
        go_wp2
        go_roundw
        case rel =>
          refine ⟨k + 1, A2, c2, by omega, (by first | go_num | (congr 1; omega)), rfl, Lib.hid (fun j hj => ?_), Lib.hid (by simpa using HO4.out.set_ 1 (.slice A2 (k + 1 + 1) c2)), Lib.hid ?_, HNE4, Lib.hid (HB4.out.setCell (Nat.le_trans (show w.heap.size + 2 ≤ w.heap.size + 1 + 1 by omega) (Nat.le_refl _)) _)⟩
          · rcases Nat.lt_or_ge j k with h | h
            · exact HL.out j h
            · rw [show j = k by omega]; exact hpos
          · rw [chg_list]
            have h8 := HR4.out
            simp only [List.range_succ, List.map_append, List.map_cons, List.map_nil] at h8 ⊢
            refine h8.keep fun g' hg' => Below.heap_setCell _ _ _ _ (fun h => HNE4.out ?_)
            rw [hg']; exact congrArg some h
        case measure => simp [intOf]; omega
      · have HE := Lib.hid (show chgAt xs dt (k + 1) = 0 by rw [HNXT.out, chgDead, if_neg (by rw [HLen.out]; exact hl2)]; omega)
        have hl1 := HTab.out.zero (k + 1) (by have := HLen.out; omega)
        have hlz : (lv xs (k + 1) == 0) = true := by simp [hl1]
        clear hl1
        have HTr := Lib.hid (HTW.out _ HBr.out)
        have HBb := Lib.hid (HB.out.below HBr.out (by omega))
        have hcT := Lib.hid (Blk.agg_past (cs := [.int .i64 f, .slice (some ad) n cap]) HBb.out 0 [.int .i64 f, .slice (some ad) n cap] rfl)
        have HEk := Lib.hid (show (f + (k : Int) - f).toNat = k by omega)
        have HEk1 := Lib.hid (show (f + (k : Int) + 1 - f).toNat = k + 1 by omega)
        go_wp2
        refine wp_region_past_tail 14 (by kernel_rfl) (by kernel_rfl) ?_
        simp only [List.take_succ_cons, List.take_zero, List.drop_succ_cons, List.drop_zero]
        repeat (first | (go_big_quiet_want; (first | (refine quiet_load_agg 26 _ rfl ⟨w.heap.size, 0, none⟩ rfl [.int .i64 f, .slice (some ad) n cap] hcT.out _ Tryz.underlying26 rfl Tab.size ?_)); go_simp; go_big_quiet_on) | go_big_quiet_step ((first | (go_at_call 111; exact past_call ((impl_LifeTable_deaths_any f (some ad) n cap xs (f + (k : Int)) _ (HTr.out.past (Subtype.property _)) HTab.out ⟨by omega, by omega⟩).mono (by rw [HEk.out]; exact fun _ _ h => h))) | (go_at_call 112; exact past_call ((impl_LifeTable_lives_any f (some ad) n cap xs (f + (k : Int)) _ (HTr.out.past (Subtype.property _)) HTab.out ⟨by omega, by omega⟩).mono (by rw [HEk.out]; exact fun _ _ h => h))) | (go_at_call 125; exact past_same (impl_up_any _ _ _ (by omega) (by omega) (by omega) (by omega))))))
        refine wpQuiet_nil ?_
        rintro _ ⟨y, rfl⟩
        have hby := HBr.out.trans (y.2.mono hsr)
        have HTy := Lib.hid (HTW.out _ hby)
        have hcY := Lib.hid (Blk.agg (cs := [.int .i64 f, .slice (some ad) n cap]) (HB.out.below hby (by omega)) 0 [.int .i64 f, .slice (some ad) n cap] rfl)
        go_wp2_with (refine wpList_load_agg rfl 26 _ rfl ⟨w.heap.size, 0, none⟩ rfl [.int .i64 f, .slice (some ad) n cap] hcY.out _ Tryz.underlying26 rfl Tab.size ?_)
        refine (impl_LifeTable_lives_any f (some ad) n cap xs (f + (k : Int) + 1) _ HTy.out HTab.out ⟨by omega, by omega⟩).mono ?_
        rw [HEk1.out]
        rintro e w3 ⟨rfl, hb3⟩
        have HBy := Lib.hid (hby.trans (hb3.mono (Nat.le_trans hsr y.2.size)))
        have hw3 := below_step y.2 hb3
        have HOy := Lib.hid (HOr.out.below' hw3)
        have HRy := Lib.hid (HRr.out.past hw3)
        have hsy : w.heap.size + 2 ≤ w3.heap.size := Nat.le_trans hsr hw3.size
        have y1 : w3.cell? ⟨w.heap.size + 1 + 1, 1, none⟩ = some (.slice A' (k + 1) c') := HOy.out.cell 1
        go_upto_region 10 with (fail)
        go_wp2_with (at_builtin; refine wpList_append_row_at w3 rfl (.tmp 52) (.tmp 54) 24 rfl (w.heap.size + 2) 2 i0 _ 1 8 Tryz.underlying24 HI.out.1 HI.out.2.1 HI.out.2.2.1 HI.out.2.2.2 rfl (by decide) (by decide) A' (k + 1) c' _ rfl HRy.out [.int .i64 0] _ rfl rfl (by simp [Value.oneCell']) (by omega) hsy ?_)
        intro A2 c2 w4 hR4 hb4 hk4 hA4
        have HR4 := Lib.hid hR4; clear hR4
        have HO4 := Lib.hid (HOy.out.kept hk4 (fun h => HNE.out h.symm))
        have HB4 := Lib.hid (HBy.out.trans hb4)
        have HNE4 : Hid (blkOf A2 ≠ some (w.heap.size + 1 + 1)) := Lib.hid (by
          rcases hA4 with h | h
          · rw [h]; exact HNE.out
          · have hlt := HOy.out.lt; rw [h]; intro h9; injection h9 with h9; omega)
        clear hk4 hA4 hb4
        have z1 : w4.cell? ⟨w.heap.size + 1 + 1, 1, none⟩ = some (.slice A' (k + 1) c') := HO4.out.cell 1
        have z2 : w4.frozen? ⟨w.heap.size + 1 + 1, 1, none⟩ = false := HO4.out.frozen 1
        go_wp2
        go_roundw
        case rel =>
          refine ⟨k + 1, A2, c2, by omega, (by first | go_num | (congr 1; omega)), by rw [HE.out], Lib.hid (fun j hj => ?_), Lib.hid (by simpa using HO4.out.set_ 1 (.slice A2 (k + 1 + 1) c2)), Lib.hid ?_, HNE4, Lib.hid (HB4.out.setCell (Nat.le_trans (show w.heap.size + 2 ≤ w.heap.size + 1 + 1 by omega) (Nat.le_refl _)) _)⟩
          · rcases Nat.lt_or_ge j k with h | h
            · exact HL.out j h
            · rw [show j = k by omega]; exact hpos
          · rw [chg_list, HE.out]
            have h8 := HR4.out
            simp only [List.range_succ, List.map_append, List.map_cons, List.map_nil] at h8 ⊢
            refine h8.keep fun g' hg' => Below.heap_setCell _ _ _ _ (fun h => HNE4.out ?_)
            rw [hg']; exact congrArg some h
        case measure => simp [intOf]; omega


set_option maxRecDepth 100000 in
set_option maxHeartbeats 8000000 in
theorem spec_l21Table_any (f : Int) (A : Option Addr) (n cap : Nat) (xs : List Int) (dt : Int) (w : World) (hT : LiesT w A n xs) (T : TabOk f xs) (hd : -500 ≤ dt ∧ dt ≤ 500) :
    Calls Tryz.prog 86 #[.agg #[.int .i64 f, .slice A n cap], .int .i64 dt] w fun e w' => ∃ A' c', e = .returned (.agg #[.int .i64 f, .slice A' (chgLen xs dt + 1) c']) ∧ Res w.heap.size w' 2 1 A' (chgLen xs dt + 1) c' (intRows (chgL xs dt)) ∧ Below w.heap.size w w' := by
  have hbw : Below w.heap.size w ((w.alloc (.cells #[.int .i64 f, .slice A n cap] 26)).alloc (.cells #[.int .i64 0, .slice none 0 0] 26)) := ((Below.refl _ w).alloc (Nat.le_refl _) _).alloc (by simp) _
  have HB := Lib.hid ((Blk.new w 26 #[.int .i64 f, .slice A n cap]).alloc (.cells #[.int .i64 0, .slice none 0 0] 26))
  have HO := Lib.hid (Blk.new (w.alloc (.cells #[.int .i64 f, .slice A n cap] 26)) 26 #[.int .i64 0, .slice none 0 0])
  simp only [World.size_alloc] at HO
  have HT := Lib.hid (hT.past hbw); clear hT
  have hn := HT.out.small
  have HLen := Lib.hid HT.out.len
  have hn2 : 2 ≤ n := by have := T.len0; have := HT.out.len; omega
  have hn120 : n ≤ 120 := by have := T.len1; have := HT.out.len; omega
  have hn0 : (0 : Int) < (n : Int) := by omega
  have hn00 : 0 < n := by omega
  obtain ⟨ad, hA, had, hc0⟩ := HT.out.at_ (k := 0) (by omega)
  subst hA
  rw [add_zero_at] at hc0
  have f0 := T.first0; have f1 := T.first1
  obtain ⟨d0, d1⟩ := hd
  have HCB := Lib.hid (chg_bound T ⟨d0, d1⟩)
  have HPT := Lib.hid (fun k (hk : k + 1 < n) => chg_parts T ⟨d0, d1⟩ (k := k) (by rw [HLen.out]; exact hk) (HCB.out k).1 (HCB.out k).2)
  have HTab := Lib.hid T
  clear T
  obtain ⟨i0, hi0, hz0, hz1, hz2⟩ := info_parts Int64.info
  have HI := Lib.hid (And.intro hi0 (And.intro hz0 (And.intro hz1 hz2))); clear hi0 hz0 hz1 hz2
  have HP := Lib.hid (fun w' (q : Below (w.heap.size + 2) ((w.alloc (.cells #[.int .i64 f, .slice (some ad) n cap] 26)).alloc (.cells #[.int .i64 0, .slice none 0 0] 26)) w') (o : Obj) => q.alloc (Nat.le_trans (by simp) q.size) o)
  have HD := Lib.hid ((Below.refl (w.heap.size + 2) ((w.alloc (.cells #[.int .i64 f, .slice (some ad) n cap] 26)).alloc (.cells #[.int .i64 0, .slice none 0 0] 26))).drew)
  have HS := Lib.hid (show ∀ w', Below (w.heap.size + 2) ((w.alloc (.cells #[.int .i64 f, .slice (some ad) n cap] 26)).alloc (.cells #[.int .i64 0, .slice none 0 0] 26)) w' → Below (w.heap.size + 2) ((w.alloc (.cells #[.int .i64 f, .slice (some ad) n cap] 26)).alloc (.cells #[.int .i64 0, .slice none 0 0] 26)) w' ∧ w'.cell? ⟨w.heap.size, 0, none⟩ = some (.int .i64 f) ∧ w'.cell? ⟨w.heap.size, 1, none⟩ = some (.slice (some ad) n cap) ∧ w'.cell? ad = some (.int .i64 (lv xs 0)) from fun w' q => by
    have HB' := HB.out.below q (by omega)
    exact ⟨q, HB'.cell 0, HB'.cell 1, (q.cell (p := ad) (by simpa using had)).trans hc0⟩)
  have HBW := Lib.hid (show ∀ w', Below (w.heap.size + 2) ((w.alloc (.cells #[.int .i64 f, .slice (some ad) n cap] 26)).alloc (.cells #[.int .i64 0, .slice none 0 0] 26)) w' → Below w.heap.size w w' from fun w' q => hbw.trans (q.mono (by omega)))
  have HTW := Lib.hid (show ∀ w', Below (w.heap.size + 2) ((w.alloc (.cells #[.int .i64 f, .slice (some ad) n cap] 26)).alloc (.cells #[.int .i64 0, .slice none 0 0] 26)) w' → LiesT w' (some ad) n xs from fun w' q => HT.out.past (by rw [show ((w.alloc (.cells #[.int .i64 f, .slice (some ad) n cap] 26)).alloc (.cells #[.int .i64 0, .slice none 0 0] 26)).heap.size = w.heap.size + 2 from by simp]; exact q))
  obtain ⟨_, s0, s1, s2⟩ := HS.out _ (Below.refl _ _)
  go_enter Tryz.func86, Tryz.ntmps86
  go_upto_region 4 with (fail)
  clear s0 s1 s2

  have HW := Lib.hid (show Blk ((((w.alloc (.cells #[.int .i64 f, .slice (some ad) n cap] 26)).alloc (.cells #[.int .i64 0, .slice none 0 0] 26)).alloc (.cells #[.int .i64 (lv xs 0)] 2)).alloc (.cells #[.int .i64 f, .slice (some ⟨w.heap.size + 1 + 1, 0, none⟩) 1 1] 26)) (w.heap.size + 1 + 1 + 1) 26 #[.int .i64 f, .slice (some ⟨w.heap.size + 1 + 1, 0, none⟩) 1 1] ∧ Res (w.heap.size + 2) ((((w.alloc (.cells #[.int .i64 f, .slice (some ad) n cap] 26)).alloc (.cells #[.int .i64 0, .slice none 0 0] 26)).alloc (.cells #[.int .i64 (lv xs 0)] 2)).alloc (.cells #[.int .i64 f, .slice (some ⟨w.heap.size + 1 + 1, 0, none⟩) 1 1] 26)) 2 1 (some ⟨w.heap.size + 1 + 1, 0, none⟩) 1 1 (intRows ((List.range 1).map (chgAt xs dt))) ∧ Below (w.heap.size + 2) ((w.alloc (.cells #[.int .i64 f, .slice (some ad) n cap] 26)).alloc (.cells #[.int .i64 0, .slice none 0 0] 26)) ((((w.alloc (.cells #[.int .i64 f, .slice (some ad) n cap] 26)).alloc (.cells #[.int .i64 0, .slice none 0 0] 26)).alloc (.cells #[.int .i64 (lv xs 0)] 2)).alloc (.cells #[.int .i64 f, .slice (some ⟨w.heap.size + 1 + 1, 0, none⟩) 1 1] 26)) from ⟨by have h := (Blk.new (((w.alloc (.cells #[.int .i64 f, .slice (some ad) n cap] 26)).alloc (.cells #[.int .i64 0, .slice none 0 0] 26)).alloc (.cells #[.int .i64 (lv xs 0)] 2)) 26 #[.int .i64 f, .slice (some ⟨w.heap.size + 1 + 1, 0, none⟩) 1 1]); simpa using h, (by have h := ((Res.new1 (w := ((w.alloc (.cells #[.int .i64 f, .slice (some ad) n cap] 26)).alloc (.cells #[.int .i64 0, .slice none 0 0] 26))) (B := w.heap.size + 2) 2 (.int .i64 (lv xs 0)) (by simp)).past ((Below.refl _ _).alloc (Nat.le_refl _) (.cells #[.int .i64 f, .slice (some ⟨w.heap.size + 1 + 1, 0, none⟩) 1 1] 26))); simpa [intRows, chgAt] using h), (((Below.refl _ _).alloc (by simp) _).alloc (by simp <;> omega) _)⟩)
  generalize ((((w.alloc (.cells #[.int .i64 f, .slice (some ad) n cap] 26)).alloc (.cells #[.int .i64 0, .slice none 0 0] 26)).alloc (.cells #[.int .i64 (lv xs 0)] 2)).alloc (.cells #[.int .i64 f, .slice (some ⟨w.heap.size + 1 + 1, 0, none⟩) 1 1] 26)) = w2 at HW ⊢
  obtain ⟨hO2, hR2, hb2⟩ := HW.out
  have HO2 := Lib.hid hO2; have HR2 := Lib.hid hR2; have HB2 := Lib.hid hb2
  clear HW hO2 hR2 hb2
  obtain ⟨_, c0, c1, c2⟩ := HS.out _ HB2.out
  go_wp2
  go_loopw [5, 7] (fun l a wr => ∃ (k : Nat) (A' : Option Addr) (c' : Nat), k + 1 ≤ n ∧ a = .int .i64 (k : Int) ∧ l = .int .i64 (chgAt xs dt k) ∧ Hid (∀ j : Nat, j < k → 0 < chgAt xs dt j) ∧ Hid (Blk wr (w.heap.size + 1 + 1 + 1) 26 #[.int .i64 f, .slice A' (k + 1) c']) ∧ Hid (Res (w.heap.size + 2) wr 2 1 A' (k + 1) c' (intRows ((List.range (k + 1)).map (chgAt xs dt)))) ∧ Hid (blkOf A' ≠ some (w.heap.size + 1 + 1 + 1)) ∧ Hid (Below (w.heap.size + 2) ((w.alloc (.cells #[.int .i64 f, .slice (some ad) n cap] 26)).alloc (.cells #[.int .i64 0, .slice none 0 0] 26)) wr)) (fun _ a _ => n - (intOf a).toNat)
  case atStart => exact ⟨0, some ⟨w.heap.size + 1 + 1, 0, none⟩, 1, by omega, rfl, rfl, Lib.hid (fun j hj => by omega), HO2, HR2, Lib.hid (by unfold blkOf; simp), HB2⟩
  case round =>
    obtain ⟨k, A', c', hk, rfl, rfl, HL, HOr, HRr, HNE, HBr⟩ := hrel
    clear c0 c1 c2 HO2 HR2 HB2
    have hcb := HCB.out k
    obtain ⟨cb0, cb1⟩ := hcb
    have hsr : w.heap.size + 2 ≤ wr.heap.size := Nat.le_trans (by simp) HBr.out.size
    by_cases hpos : 0 < chgAt xs dt k
    rotate_left
    · have HLn := Lib.hid (chg_len (xs := xs) (dt := dt) (k := k) (by rw [HLen.out]; omega) HL.out (by omega))
      have hcO := Lib.hid (Blk.agg (cs := [.int .i64 f, .slice A' (k + 1) c']) HOr.out 0 [.int .i64 f, .slice A' (k + 1) c'] rfl)
      have HCr := Lib.hid (HO.out.below HBr.out (by omega))
      have H1 : Hid (∀ v ∈ ([.int .i64 f, .slice A' (k + 1) c'] : List Value), v.oneCell' = true) := Lib.hid (by simp [Value.oneCell'])
      go_wp2_with (first | (refine wpList_load_agg rfl 26 _ rfl ⟨w.heap.size + 1 + 1 + 1, 0, none⟩ rfl [.int .i64 f, .slice A' (k + 1) c'] hcO.out _ Tryz.underlying26 rfl Tab.size ?_) | (refine wpList_store_agg rfl 26 _ _ rfl (w.heap.size + 1) 0 [.int .i64 f, .slice A' (k + 1) c'] rfl rfl 26 #[.int .i64 0, .slice none 0 0] HCr.out Tab.size (by simp) H1.out ?_))
      intro w6 hR6 hg6 _
      have hR6' : Blk w6 (w.heap.size + 1) 26 #[.int .i64 f, .slice A' (k + 1) c'] := hR6
      have r0 : w6.cell? ⟨w.heap.size + 1, 0, none⟩ = some (.int .i64 f) := hR6'.cell 0
      have r1 : w6.cell? ⟨w.heap.size + 1, 1, none⟩ = some (.slice A' (k + 1) c') := hR6'.cell 1
      go_wp2
      refine bodyPost_ret (v := .agg #[.int .i64 f, .slice A' (k + 1) c']) (by simp [results, Tryz.results86, go_sem, r0, r1]) rfl ⟨A', c', by rw [HLn.out], ?_, (HBW.out _ HBr.out).grown hg6 (by have := (HBW.out _ HBr.out).size; omega) (fun k hk => by injection hk with hk; omega)⟩
      rw [HLn.out, chgL, HLn.out]
      refine Res.more (B := w.heap.size + 2) (HRr.out.keep fun g' hg' => ?_) (by omega)
      exact hg6.block g' (HRr.out.lt hg').2 (by have := (HRr.out.lt hg').1; intro h; injection h with h; omega)
    have hk2 := chg_more (xs := xs) (dt := dt) HLen.out hk hn2 hpos
    obtain ⟨⟨p1, p2⟩, ⟨p3, p4⟩, ⟨p5, p6⟩, ⟨p7, p8⟩, p9, p10⟩ := HPT.out k hk2
    have HQ0 := Lib.hid (HCB.out (k + 1))
    have HNXT := Lib.hid (show chgAt xs dt (k + 1) = chgAt xs dt k - chgDead xs dt k (chgAt xs dt k) by rw [chgAt])
    by_cases hl2 : k + 2 < n
    · have HE := Lib.hid (chg_next (dt := dt) (show k + 2 < xs.length by rw [HLen.out]; exact hl2))
      have hl1 := HTab.out.pos (k + 1) (by have := HLen.out; omega)
      have hlz : (lv xs (k + 1) == 0) = false := by simp; omega
      have hm0 : 0 ≤ chgAt xs dt k - min (chgAt xs dt k) (ceilDiv (chgAt xs dt k * (lv xs k - lv xs (k + 1)) * (1000 + dt)) (1000 * lv xs k)) := by rw [← HE.out]; exact HQ0.out.1
      have hm1 : chgAt xs dt k - min (chgAt xs dt k) (ceilDiv (chgAt xs dt k * (lv xs k - lv xs (k + 1)) * (1000 + dt)) (1000 * lv xs k)) ≤ 1000000 := by rw [← HE.out]; exact HQ0.out.2
      have HBb := Lib.hid (HB.out.below HBr.out (by omega))
      have e1 : wr.cell? ⟨w.heap.size, 1, none⟩ = some (.slice (some ad) n cap) := HBb.out.cell 1
      have hk1i : (k : Int) < (n : Int) := by omega
      have hl2i : (k : Int) + 2 < (n : Int) := by omega
      have hl1i : (k : Int) + 1 < (n : Int) := by omega
      have HTr := Lib.hid (HTW.out _ HBr.out)
      obtain ⟨ad1, had1, _, hck⟩ := HTr.out.at_ (k := k) (by omega)
      injection had1 with had1; subst had1
      obtain ⟨ad2, had2, _, hcp⟩ := HTr.out.at_ (k := k + 1) hk2
      injection had2 with had2; subst had2
      rw [show ad.add (k + 1) = ⟨ad.block, ad.off + (k + 1), none⟩ from by simp [Addr.add]] at hcp
      have g1 := fun y : Past wr => Past.cell e1 y
      have g2 := fun y : Past wr => Past.cell hck y
      have g3 := fun y : Past wr => Past.cell hcp y
      have HUP := Lib.hid (show upP (chgAt xs dt k) ((lv xs k - lv xs (k + 1)) * (1000 + dt)) (1000 * lv xs k) = ceilDiv (chgAt xs dt k * (lv xs k - lv xs (k + 1)) * (1000 + dt)) (1000 * lv xs k) by rw [up_ceil (by omega), Int.mul_assoc])
      have hquo : chgAt xs dt k * ((lv xs k - lv xs (k + 1)) * (1000 + dt)) / (1000 * lv xs k) ≤ 1000000000000000000 := by
        rw [← Int.mul_assoc]
        have h9 := Int.ediv_le_self (1000 * lv xs k) p9
        omega
      go_wp2
      refine wp_region_past_tail 24 (by kernel_rfl) (by kernel_rfl) ?_
      simp only [List.take_succ_cons, List.take_zero, List.drop_succ_cons, List.drop_zero]
      repeat (go_big_quiet_step ((go_at_call 114; exact past_same ((spec_l05Up_any _ _ _ _ ⟨by omega, by omega⟩ ⟨by omega, by omega⟩ ⟨by omega, by omega⟩ hquo).mono (by rw [HUP.out]; exact fun _ _ h => h)))))
      refine wpQuiet_nil ?_
      rintro _ ⟨y, rfl⟩
      clear g1 g2 g3
      have HBy := Lib.hid (HBr.out.trans (y.2.mono hsr))
      have HOy := Lib.hid (HOr.out.below' y.2)
      have HRy := Lib.hid (HRr.out.past y.2)
      have hsy : w.heap.size + 2 ≤ y.1.heap.size := Nat.le_trans hsr y.2.size
      have y1 : y.1.cell? ⟨w.heap.size + 1 + 1 + 1, 1, none⟩ = some (.slice A' (k + 1) c') := HOy.out.cell 1
      go_upto_region 10 with (fail)
      rw [← HE.out]
      go_wp2_with (at_builtin; refine wpList_append_row_at y.1 rfl (.tmp 58) (.tmp 60) 24 rfl (w.heap.size + 2) 2 i0 _ 1 8 Tryz.underlying24 HI.out.1 HI.out.2.1 HI.out.2.2.1 HI.out.2.2.2 rfl (by decide) (by decide) A' (k + 1) c' _ rfl HRy.out [.int .i64 (chgAt xs dt (k + 1))] _ rfl rfl (by simp [Value.oneCell']) (by omega) hsy ?_)
      intro A2 c2 w4 hR4 hb4 hk4 hA4
      have HR4 := Lib.hid hR4; clear hR4
      have HO4 := Lib.hid (HOy.out.kept hk4 (fun h => HNE.out h.symm))
      have HB4 := Lib.hid (HBy.out.trans hb4)
      have HNE4 : Hid (blkOf A2 ≠ some (w.heap.size + 1 + 1 + 1)) := Lib.hid (by
        rcases hA4 with h | h
        · rw [h]; exact HNE.out
        · have hlt := HOy.out.lt; rw [h]; intro h9; injection h9 with h9; omega)
      clear hk4 hA4 hb4
      have z1 : w4.cell? ⟨w.heap.size + 1 + 1 + 1, 1, none⟩ = some (.slice A' (k + 1) c') := HO4.out.cell 1
      have z2 : w4.frozen? ⟨w.heap.size + 1 + 1 + 1, 1, none⟩ = false := HO4.out.frozen 1
      go_wp2
      go_roundw
      case rel =>
        refine ⟨k + 1, A2, c2, by omega, (by first | go_num | (congr 1; omega)), rfl, Lib.hid (fun j hj => ?_), Lib.hid (by simpa using HO4.out.set_ 1 (.slice A2 (k + 1 + 1) c2)), Lib.hid ?_, HNE4, Lib.hid (HB4.out.setCell (Nat.le_trans (show w.heap.size + 2 ≤ w.heap.size + 1 + 1 + 1 by omega) (Nat.le_refl _)) _)⟩
        · rcases Nat.lt_or_ge j k with h | h
          · exact HL.out j h
          · rw [show j = k by omega]; exact hpos
        · rw [chg_list]
          have h8 := HR4.out
          simp only [List.range_succ, List.map_append, List.map_cons, List.map_nil] at h8 ⊢
          refine h8.keep fun g' hg' => Below.heap_setCell _ _ _ _ (fun h => HNE4.out ?_)
          rw [hg']; exact congrArg some h
      case measure => simp [intOf]; omega
    · have HE := Lib.hid (show chgAt xs dt (k + 1) = 0 by rw [HNXT.out, chgDead, if_neg (by rw [HLen.out]; exact hl2)]; omega)
      have hl1 := HTab.out.zero (k + 1) (by have := HLen.out; omega)
      have hlz : (lv xs (k + 1) == 0) = true := by simp [hl1]
      clear hl1
      have HBb := Lib.hid (HB.out.below HBr.out (by omega))
      have e1 : wr.cell? ⟨w.heap.size, 1, none⟩ = some (.slice (some ad) n cap) := HBb.out.cell 1
      have hk1i : (k : Int) < (n : Int) := by omega
      have hl2i : ¬ ((k : Int) + 2 < (n : Int)) := by omega
      have HBy := HBr
      have HOy := HOr
      have HRy := HRr
      have hsy := hsr
      have y1 : wr.cell? ⟨w.heap.size + 1 + 1 + 1, 1, none⟩ = some (.slice A' (k + 1) c') := HOy.out.cell 1
      go_upto_region 10 with (fail)
      go_wp2_with (at_builtin; refine wpList_append_row_at wr rfl (.tmp 58) (.tmp 60) 24 rfl (w.heap.size + 2) 2 i0 _ 1 8 Tryz.underlying24 HI.out.1 HI.out.2.1 HI.out.2.2.1 HI.out.2.2.2 rfl (by decide) (by decide) A' (k + 1) c' _ rfl HRy.out [.int .i64 0] _ rfl rfl (by simp [Value.oneCell']) (by omega) hsy ?_)
      intro A2 c2 w4 hR4 hb4 hk4 hA4
      have HR4 := Lib.hid hR4; clear hR4
      have HO4 := Lib.hid (HOy.out.kept hk4 (fun h => HNE.out h.symm))
      have HB4 := Lib.hid (HBy.out.trans hb4)
      have HNE4 : Hid (blkOf A2 ≠ some (w.heap.size + 1 + 1 + 1)) := Lib.hid (by
        rcases hA4 with h | h
        · rw [h]; exact HNE.out
        · have hlt := HOy.out.lt; rw [h]; intro h9; injection h9 with h9; omega)
      clear hk4 hA4 hb4
      have z1 : w4.cell? ⟨w.heap.size + 1 + 1 + 1, 1, none⟩ = some (.slice A' (k + 1) c') := HO4.out.cell 1
      have z2 : w4.frozen? ⟨w.heap.size + 1 + 1 + 1, 1, none⟩ = false := HO4.out.frozen 1
      go_wp2
      go_roundw
      case rel =>
        refine ⟨k + 1, A2, c2, by omega, (by first | go_num | (congr 1; omega)), by rw [HE.out], Lib.hid (fun j hj => ?_), Lib.hid (by simpa using HO4.out.set_ 1 (.slice A2 (k + 1 + 1) c2)), Lib.hid ?_, HNE4, Lib.hid (HB4.out.setCell (Nat.le_trans (show w.heap.size + 2 ≤ w.heap.size + 1 + 1 + 1 by omega) (Nat.le_refl _)) _)⟩
        · rcases Nat.lt_or_ge j k with h | h
          · exact HL.out j h
          · rw [show j = k by omega]; exact hpos
        · rw [chg_list, HE.out]
          have h8 := HR4.out
          simp only [List.range_succ, List.map_append, List.map_cons, List.map_nil] at h8 ⊢
          refine h8.keep fun g' hg' => Below.heap_setCell _ _ _ _ (fun h => HNE4.out ?_)
          rw [hg']; exact congrArg some h
      case measure => simp [intOf]; omega

end Go.Proofs.YtbjdbpdgacfcpaaGreat
end
