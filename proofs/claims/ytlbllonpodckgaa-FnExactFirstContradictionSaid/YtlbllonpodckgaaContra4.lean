/- The first contradiction of statutes: the program's contract. No condition. -/
import Derived.Test.YtlbllonpodckgaaContraQ
import Derived.Test.YtlbllonpodckgaaContra
import Derived.Deep.DeepCutAuto
namespace Go.Proofs.Ytlbllonpodckgaa
open Go.RowKit Go.BigFrame
set_option maxRecDepth 100000 in
set_option maxHeartbeats 4000000 in
theorem impl_FirstContradiction_any (A : Option Addr) (n cap : Nat) (xs : List Rule) (w : World) (hl : xs.length = n) (hn : n ≤ 1048576) (hX : Rd w w.heap.size A 6 (ruleRows xs)) (hf : ∀ x ∈ xs, x.fits) :
    Calls Try.prog 9 #[.slice A n cap] w fun e w' => e = .returned (.tuple #[.int .i64 (contraP xs).1, .int .i64 (contraP xs).2.1, .agg (contraP xs).2.2.1.row.toArray, .int .i64 (contraP xs).2.2.2]) ∧ Below w.heap.size w w' := by
  have HF := Lib.hid hf; clear hf
  have HL := Lib.hid hl; clear hl
  have H1 : Hid (∀ v ∈ ([.int .i64 0, .int .i64 0, .int .i64 0] : List Value), v.oneCell' = true) := Lib.hid (by simp [Value.oneCell'])
  have hz1 : (w.alloc (.cells #[.int .i64 0, .int .i64 0, .int .i64 0] 25)).heap.size = w.heap.size + 1 := by simp
  have HB1 := Lib.hid (show Below w.heap.size w (w.alloc (.cells #[.int .i64 0, .int .i64 0, .int .i64 0] 25)) from (Below.refl _ w).alloc (Nat.le_refl _) _)
  have HZ1 := Lib.hid (Blk.new w 25 #[.int .i64 0, .int .i64 0, .int .i64 0])
  have HX := Lib.hid ((hX.below HB1.out).more HB1.out.size); clear hX
  go_enter Try.func9, Try.ntmps9
  go_wp2_with fail
  generalize w.alloc (.cells #[.int .i64 0, .int .i64 0, .int .i64 0] 25) = W1 at HB1 HZ1 HX hz1 ⊢
  refine (impl_AreStatutes_any A n cap xs _ HL.out hn HX.out HF.out).mono ?_
  cases hg : statutesB xs
  rotate_left
  · have HG := Lib.hid hg; clear hg
    rintro e w1 ⟨rfl, hb1⟩
    have HB2 := Lib.hid hb1; clear hb1
    go_wp2
    go_loopw [17] (fun i wr => ∃ k : Nat, k ≤ n ∧ i = .int .i64 k ∧ Hid (outerP (xs.drop k) (k : Int) = outerP xs 0) ∧ Hid (Below W1.heap.size W1 wr)) (fun i _ => n - (intOf i).toNat)
    case atStart => exact ⟨0, by omega, rfl, Lib.hid rfl, HB2⟩
    case round =>
      obtain ⟨k, hk, rfl, HO, HB⟩ := hrel
      obtain ⟨vr, hvr⟩ : ∃ X, X = wr := ⟨wr, rfl⟩
      subst hvr
      clear HB2
      by_cases hlt : k < n
      rotate_left
      · have hkn : k = n := by omega
        subst hkn
        have E := Lib.hid (contra_none HG.out (by rw [← HO.out]; exact outer_end (by have := HL.out; omega)))
        have HZ2 := Lib.hid (HZ1.out.below' HB.out)
        have HBw := Lib.hid (HB1.out.trans (HB.out.mono HB1.out.size))
        go_wp2_with (refine wpList_store_agg rfl 25 _ _ rfl w.heap.size 0 [.int .i64 0, .int .i64 0, .int .i64 0] rfl rfl 25 #[.int .i64 0, .int .i64 0, .int .i64 0] HZ2.out Case.size (by simp) H1.out ?_)
        intro w6 hR6 hg6 _
        have hR6' : Blk w6 w.heap.size 25 #[.int .i64 0, .int .i64 0, .int .i64 0] := hR6
        have r0 : w6.cell? ⟨w.heap.size, 0, none⟩ = some (.int .i64 0) := hR6'.cell 0
        have r1 : w6.cell? ⟨w.heap.size, 1, none⟩ = some (.int .i64 0) := hR6'.cell 1
        have r2 : w6.cell? ⟨w.heap.size, 2, none⟩ = some (.int .i64 0) := hR6'.cell 2
        go_wp2
        refine bodyPost_ret (v := .tuple #[.int .i64 0, .int .i64 0, .agg #[.int .i64 0, .int .i64 0, .int .i64 0], .int .i64 4]) (by simp [results, Try.results9, go_sem, r0, r1, r2]) rfl ?_
        exact ⟨by rw [E.out]; rfl, HBw.out.grown hg6 (by have h9 := HZ2.out.lt; omega) (fun q hq => by injection hq with hq; omega)⟩
      obtain ⟨x, hx⟩ := get_of_lt (xs := xs) (k := k) (by rw [HL.out]; exact hlt)
      obtain ⟨ad, rfl, had, _, hc⟩ := HX.out.at' (ruleRows_get hx)
      have Hx := Lib.hid hx; clear hx
      have HRX := Lib.hid (statutes_rule HG.out x (List.mem_of_getElem? Hx.out))
      have Hc := Lib.hid (Rd.at'' (HX.out.past HB.out) (ruleRows_get Hx.out)); clear hc
      have HBr := Lib.hid (show Below W1.heap.size W1 (vr.alloc (.cells #[.int .i64 x.ageFrom, .int .i64 x.ageTo, .int .i64 x.yearsFrom, .int .i64 x.yearsTo, .int .i64 x.kinds, .int .i64 x.outcome] 58)) from HB.out.alloc HB.out.size _)
      have HRB := Lib.hid (Blk.new vr 58 #[.int .i64 x.ageFrom, .int .i64 x.ageTo, .int .i64 x.yearsFrom, .int .i64 x.yearsTo, .int .i64 x.kinds, .int .i64 x.outcome])
      have hzr : (vr.alloc (.cells #[.int .i64 x.ageFrom, .int .i64 x.ageTo, .int .i64 x.yearsFrom, .int .i64 x.yearsTo, .int .i64 x.kinds, .int .i64 x.outcome] 58)).heap.size = vr.heap.size + 1 := by simp
      go_wp2_with (first | (refine wpList_load_agg rfl 58 _ rfl (ad.add (k * 6)) rfl [.int .i64 x.ageFrom, .int .i64 x.ageTo, .int .i64 x.yearsFrom, .int .i64 x.yearsTo, .int .i64 x.kinds, .int .i64 x.outcome] Hc.out _ Try.underlying58 rfl Rule.size ?_))
      generalize (vr.alloc (.cells #[.int .i64 x.ageFrom, .int .i64 x.ageTo, .int .i64 x.yearsFrom, .int .i64 x.yearsTo, .int .i64 x.kinds, .int .i64 x.outcome] 58)) = W2 at HBr HRB hzr ⊢
      go_loopw [8] (fun j wi => ∃ m : Nat, k < m ∧ m ≤ n ∧ j = .int .i64 m ∧ Hid (innerP x (xs.drop m) (m : Int) = innerP x (xs.drop (k + 1)) ((k + 1 : Nat) : Int)) ∧ Hid (Below W1.heap.size W1 wi) ∧ Hid (Blk wi vr.heap.size 58 #[.int .i64 x.ageFrom, .int .i64 x.ageTo, .int .i64 x.yearsFrom, .int .i64 x.yearsTo, .int .i64 x.kinds, .int .i64 x.outcome])) (fun j _ => n - (intOf j).toNat)
      case atStart => exact ⟨k + 1, by omega, by omega, by go_num, Lib.hid rfl, HBr, HRB⟩
      case round =>
        obtain ⟨m, hkm, hmn, rfl, HI, HBi, HRi⟩ := hrel
        obtain ⟨wi, hwi⟩ : ∃ X, X = wr := ⟨wr, rfl⟩
        subst hwi
        clear HBr HRB
        by_cases hmt : m < n
        rotate_left
        · have hme : m = n := by omega
          subst hme
          have HE := Lib.hid (HO.out.symm.trans (outer_miss Hx.out (by rw [← HI.out]; exact inner_end (by have := HL.out; omega))))
          go_wp2
          go_roundw
          case rel => exact ⟨k + 1, by omega, by go_num, Lib.hid HE.out.symm, HBi⟩
          case measure => simp [intOf]; omega
        obtain ⟨y, hy⟩ := get_of_lt (xs := xs) (k := m) (by rw [HL.out]; exact hmt)
        have Hy := Lib.hid hy; clear hy
        have HRY := Lib.hid (statutes_rule HG.out y (List.mem_of_getElem? Hy.out))
        have HS := Lib.hid (show ∀ w', Below wi.heap.size wi w' → Below wi.heap.size wi w' ∧ w'.cell? ⟨vr.heap.size, 0, none⟩ = some (.int .i64 x.ageFrom) ∧ w'.cell? ⟨vr.heap.size, 1, none⟩ = some (.int .i64 x.ageTo) ∧ w'.cell? ⟨vr.heap.size, 2, none⟩ = some (.int .i64 x.yearsFrom) ∧ w'.cell? ⟨vr.heap.size, 3, none⟩ = some (.int .i64 x.yearsTo) ∧ w'.cell? ⟨vr.heap.size, 4, none⟩ = some (.int .i64 x.kinds) ∧ w'.cell? ⟨vr.heap.size, 5, none⟩ = some (.int .i64 x.outcome) ∧ w'.cell? (ad.add (m * 6)) = some (.int .i64 y.ageFrom) ∧ w'.cell? ⟨(ad.add (m * 6)).block, (ad.add (m * 6)).off + 1, none⟩ = some (.int .i64 y.ageTo) ∧ w'.cell? ⟨(ad.add (m * 6)).block, (ad.add (m * 6)).off + 2, none⟩ = some (.int .i64 y.yearsFrom) ∧ w'.cell? ⟨(ad.add (m * 6)).block, (ad.add (m * 6)).off + 3, none⟩ = some (.int .i64 y.yearsTo) ∧ w'.cell? ⟨(ad.add (m * 6)).block, (ad.add (m * 6)).off + 4, none⟩ = some (.int .i64 y.kinds) ∧ w'.cell? ⟨(ad.add (m * 6)).block, (ad.add (m * 6)).off + 5, none⟩ = some (.int .i64 y.outcome) from fun w' q => by
          have hXq := HX.out.past (HBi.out.trans (q.mono HBi.out.size))
          have hyc := Rule.cells (Rd.at'' hXq (ruleRows_get Hy.out))
          have hxb := HRi.out.below' q
          exact ⟨q, hxb.cell 0, hxb.cell 1, hxb.cell 2, hxb.cell 3, hxb.cell 4, hxb.cell 5, hyc.1, hyc.2.1, hyc.2.2.1, hyc.2.2.2.1, hyc.2.2.2.2.1, hyc.2.2.2.2.2⟩)
        have HP := Lib.hid (fun w' (q : Below wi.heap.size wi w') (o : Obj) => q.alloc q.size o)
        have HDR := Lib.hid ((Below.refl wi.heap.size wi).drew)
        have HCall := Lib.hid (fun X => show Calls Try.prog 32 #[.agg #[.int .i64 x.ageFrom, .int .i64 x.ageTo, .int .i64 x.yearsFrom, .int .i64 x.yearsTo, .int .i64 x.kinds, .int .i64 x.outcome], .agg #[.int .i64 y.ageFrom, .int .i64 y.ageTo, .int .i64 y.yearsFrom, .int .i64 y.yearsTo, .int .i64 y.kinds, .int .i64 y.outcome]] X _ from impl_firstCommon_any x y HRX.out HRY.out X)
        go_wp2
        go_cut [9, 10] (fun s t wx => ∃ (g : Nat) (c : Case), s = .pointer (some ⟨g, 0, none⟩) ∧ t = .bool (comP x y).isSome ∧ Hid (∀ d, comP x y = some d → c = d) ∧ Hid (Blk wx g 25 #[.int .i64 c.age, .int .i64 c.years, .int .i64 c.kind]) ∧ Hid (Below wi.heap.size wi wx) ∧ Hid (wi.heap.size ≤ g))
        case first =>
          go_region_held3 (fun w' => Below wi.heap.size wi w' ∧ w'.cell? ⟨vr.heap.size, 0, none⟩ = some (.int .i64 x.ageFrom) ∧ w'.cell? ⟨vr.heap.size, 1, none⟩ = some (.int .i64 x.ageTo) ∧ w'.cell? ⟨vr.heap.size, 2, none⟩ = some (.int .i64 x.yearsFrom) ∧ w'.cell? ⟨vr.heap.size, 3, none⟩ = some (.int .i64 x.yearsTo) ∧ w'.cell? ⟨vr.heap.size, 4, none⟩ = some (.int .i64 x.kinds) ∧ w'.cell? ⟨vr.heap.size, 5, none⟩ = some (.int .i64 x.outcome) ∧ w'.cell? (ad.add (m * 6)) = some (.int .i64 y.ageFrom) ∧ w'.cell? ⟨(ad.add (m * 6)).block, (ad.add (m * 6)).off + 1, none⟩ = some (.int .i64 y.ageTo) ∧ w'.cell? ⟨(ad.add (m * 6)).block, (ad.add (m * 6)).off + 2, none⟩ = some (.int .i64 y.yearsFrom) ∧ w'.cell? ⟨(ad.add (m * 6)).block, (ad.add (m * 6)).off + 3, none⟩ = some (.int .i64 y.yearsTo) ∧ w'.cell? ⟨(ad.add (m * 6)).block, (ad.add (m * 6)).off + 4, none⟩ = some (.int .i64 y.kinds) ∧ w'.cell? ⟨(ad.add (m * 6)).block, (ad.add (m * 6)).off + 5, none⟩ = some (.int .i64 y.outcome)) (first | exact HS.out _ (HP.out _ hcc1 _) | exact HS.out _ hcc1 | exact HS.out _ (Below.setCell (Below.setCell (Below.setCell hcc1 (Nat.le_refl _) _) (Nat.le_refl _) _) (Nat.le_refl _) _) | exact HS.out _ (Below.setCell (Below.setCell (Below.setCell hcc1 hcc1.size _) hcc1.size _) hcc1.size _) | exact HS.out _ (HP.out _ HDR.out _) | exact HS.out _ HDR.out) (first | (go_at_call 32; refine (HCall.out _).mono ?_; rintro e w1 ⟨c, rfl, hcd, hcf, hb1⟩; have hcc1 : Below wi.heap.size wi w1 := (by first | exact HDR.out.trans (hb1.mono HDR.out.size) | exact (HP.out _ HDR.out _).trans (hb1.mono (HP.out _ HDR.out _).size)); (first | (have HZc := Lib.hid (Blk.below' (Blk.new wi 25 #[.int .i64 0, .int .i64 0, .int .i64 0]).drew hb1); (try simp only [World.size_alloc] at HZc)) | skip); have HCD := Lib.hid hcd; clear hcd; (first | (have zc0 := (HZc.out.cell 0).trans (show _ = some (Value.int .i64 0) from rfl); have zf0 := HZc.out.frozen 0; have zc1 := (HZc.out.cell 1).trans (show _ = some (Value.int .i64 0) from rfl); have zf1 := HZc.out.frozen 1; have zc2 := (HZc.out.cell 2).trans (show _ = some (Value.int .i64 0) from rfl); have zf2 := HZc.out.frozen 2) | skip)))
          all_goals (rename Below wi.heap.size wi _ ∧ _ => hE; clear hE)
          all_goals go_wp2_with fail
          all_goals go_meet
          all_goals case rel =>
            refine ⟨_, c, rfl, rfl, HCD, Lib.hid ?_, Lib.hid ?_, Lib.hid ?_⟩
            · first | (have h9 := ((HZc.out.set_ 0 (.int .i64 c.age)).set_ 1 (.int .i64 c.years)).set_ 2 (.int .i64 c.kind); simpa using h9) | exact Blk.new _ _ _
            · first | (have h8 := HZc.out; first | exact Below.setCell (Below.setCell (Below.setCell hcc1 (Nat.le_refl _) _) (Nat.le_refl _) _) (Nat.le_refl _) _ | exact Below.setCell (Below.setCell (Below.setCell hcc1 hcc1.size _) hcc1.size _) hcc1.size _) | exact HP.out _ hcc1 _
            · first | exact Nat.le_refl _ | exact hcc1.size
        obtain ⟨g, c, rfl, rfl, HCD, HZc, HBx, HGg⟩ := hcut
        obtain ⟨w5, hw5⟩ : ∃ X, X = wc := ⟨wc, rfl⟩
        subst hw5
        have HS5 := Lib.hid (HS.out _ HBx.out)
        have HB5 := Lib.hid (HBi.out.trans (HBx.out.mono HBi.out.size))
        have HR5 := Lib.hid (HRi.out.below' HBx.out)
        clear HS HP HDR HCall
        cases hq : (comP x y).isSome
        · have HM := Lib.hid (hit_miss hq); clear hq
          go_wp2
          refine wp_region_past (by kernel_rfl) (by kernel_rfl) ?_
          repeat (go_big_quiet_step (fail))
          refine wpQuiet_nil ?_
          rintro _ ⟨z, rfl⟩
          go_wp2
          go_roundw
          case rel => exact ⟨m + 1, by omega, by omega, by go_num, Lib.hid ((inner_miss Hy.out HM.out).symm.trans HI.out), Lib.hid (HB5.out.trans (z.2.mono HB5.out.size)), Lib.hid (HR5.out.below' z.2)⟩
          case measure => simp [intOf]; omega
        · have g1 := fun u : Past w5 => Past.cell (p := ⟨vr.heap.size, 5, none⟩) (v := .int .i64 x.outcome) (HS5.out.2.2.2.2.2.2.1) u
          have g2 := fun u : Past w5 => Past.cell (p := ⟨(ad.add (m * 6)).block, (ad.add (m * 6)).off + 5, none⟩) (v := .int .i64 y.outcome) (HS5.out.2.2.2.2.2.2.2.2.2.2.2.2) u
          have HQ := Lib.hid hq; clear hq
          by_cases ho : x.outcome = y.outcome
          · have HM := Lib.hid (hit_same ho)
            go_wp2
            refine wp_region_past (by kernel_rfl) (by kernel_rfl) ?_
            repeat (go_big_quiet_step (fail))
            refine wpQuiet_nil ?_
            rintro _ ⟨z, rfl⟩
            clear g1 g2
            go_wp2
            go_roundw
            case rel => exact ⟨m + 1, by omega, by omega, by go_num, Lib.hid ((inner_miss Hy.out HM.out).symm.trans HI.out), Lib.hid (HB5.out.trans (z.2.mono HB5.out.size)), Lib.hid (HR5.out.below' z.2)⟩
            case measure => simp [intOf]; omega
          · obtain ⟨d, hd⟩ := Option.isSome_iff_exists.1 HQ.out
            obtain rfl := HCD.out d hd
            have HE := Lib.hid (contra_some HG.out (HO.out.symm.trans (outer_hit Hx.out (HI.out.symm.trans (inner_hit Hy.out (hit_some hd ho))))))
            have H1c : Hid (∀ v ∈ ([.int .i64 c.age, .int .i64 c.years, .int .i64 c.kind] : List Value), v.oneCell' = true) := Lib.hid (by simp [Value.oneCell'])
            clear hd
            go_wp2
            refine wp_region_past (by kernel_rfl) (by kernel_rfl) ?_
            repeat (go_big_quiet_step (fail))
            refine wpQuiet_nil ?_
            rintro _ ⟨z, rfl⟩
            clear g1 g2
            have HZz := Lib.hid (HZc.out.below' z.2)
            have hcC := Lib.hid (Blk.aggr (cs := [.int .i64 c.age, .int .i64 c.years, .int .i64 c.kind]) HZz.out)
            have HBz := Lib.hid (HB5.out.trans (z.2.mono HB5.out.size))
            have HZ9 := Lib.hid (HZ1.out.below' HBz.out)
            have HBw := Lib.hid (HB1.out.trans (HBz.out.mono HB1.out.size))
            have hgw : w.heap.size < g := by have h7 := HGg.out; have h8 := HBi.out.size; omega
            have z0 : z.1.cell? ⟨g, 0, none⟩ = some (.int .i64 c.age) := HZz.out.cell 0
            have z1 : z.1.cell? ⟨g, 1, none⟩ = some (.int .i64 c.years) := HZz.out.cell 1
            have z2 : z.1.cell? ⟨g, 2, none⟩ = some (.int .i64 c.kind) := HZz.out.cell 2
            have y0 : z.1.cell? ⟨w.heap.size, 0, none⟩ = some (.int .i64 0) := HZ9.out.cell 0
            have f0 : z.1.frozen? ⟨w.heap.size, 0, none⟩ = false := HZ9.out.frozen 0
            have y1 : z.1.cell? ⟨w.heap.size, 1, none⟩ = some (.int .i64 0) := HZ9.out.cell 1
            have f1 : z.1.frozen? ⟨w.heap.size, 1, none⟩ = false := HZ9.out.frozen 1
            have y2 : z.1.cell? ⟨w.heap.size, 2, none⟩ = some (.int .i64 0) := HZ9.out.cell 2
            have f2 : z.1.frozen? ⟨w.heap.size, 2, none⟩ = false := HZ9.out.frozen 2
            go_wp2
            go_region
            all_goals
              have hz9 : Blk (((z.1.setCell ⟨w.heap.size, 0, none⟩ (.int .i64 c.age)).setCell ⟨w.heap.size, 1, none⟩ (.int .i64 c.years)).setCell ⟨w.heap.size, 2, none⟩ (.int .i64 c.kind)) w.heap.size 25 #[.int .i64 c.age, .int .i64 c.years, .int .i64 c.kind] := by simpa using ((HZ9.out.set_ 0 (.int .i64 c.age)).set_ 1 (.int .i64 c.years)).set_ 2 (.int .i64 c.kind)
              have HB9 := Lib.hid (((HBw.out.setCell (p := ⟨w.heap.size, 0, none⟩) (Nat.le_refl _) (.int .i64 c.age)).setCell (p := ⟨w.heap.size, 1, none⟩) (Nat.le_refl _) (.int .i64 c.years)).setCell (p := ⟨w.heap.size, 2, none⟩) (Nat.le_refl _) (.int .i64 c.kind))
              clear z0 z1 z2 y0 y1 y2 f0 f1 f2
              generalize (((z.1.setCell ⟨w.heap.size, 0, none⟩ (.int .i64 c.age)).setCell ⟨w.heap.size, 1, none⟩ (.int .i64 c.years)).setCell ⟨w.heap.size, 2, none⟩ (.int .i64 c.kind)) = W9 at hz9 HB9 ⊢
              have q0 : W9.cell? ⟨w.heap.size, 0, none⟩ = some (.int .i64 c.age) := hz9.cell 0
              have q1 : W9.cell? ⟨w.heap.size, 1, none⟩ = some (.int .i64 c.years) := hz9.cell 1
              have q2 : W9.cell? ⟨w.heap.size, 2, none⟩ = some (.int .i64 c.kind) := hz9.cell 2
              go_wp2_with fail
              refine bodyPost_ret (v := .tuple #[.int .i64 (k : Int), .int .i64 (m : Int), .agg #[.int .i64 c.age, .int .i64 c.years, .int .i64 c.kind], .int .i64 0]) (by simp [results, Try.results9, go_sem, q0, q1, q2]) rfl ?_
              exact ⟨by rw [HE.out]; rfl, by first | exact HB9.out | exact HB9.out.drew⟩
  · have E := Lib.hid (contra_bad hg); clear hg
    rintro e w1 ⟨rfl, hb1⟩
    have HZ2 := Lib.hid (HZ1.out.below' hb1)
    have HBw := Lib.hid (HB1.out.trans (hb1.mono HB1.out.size)); clear hb1
    go_wp2_with (refine wpList_store_agg rfl 25 _ _ rfl w.heap.size 0 [.int .i64 0, .int .i64 0, .int .i64 0] rfl rfl 25 #[.int .i64 0, .int .i64 0, .int .i64 0] HZ2.out Case.size (by simp) H1.out ?_)
    intro w6 hR6 hg6 _
    have hR6' : Blk w6 w.heap.size 25 #[.int .i64 0, .int .i64 0, .int .i64 0] := hR6
    have r0 : w6.cell? ⟨w.heap.size, 0, none⟩ = some (.int .i64 0) := hR6'.cell 0
    have r1 : w6.cell? ⟨w.heap.size, 1, none⟩ = some (.int .i64 0) := hR6'.cell 1
    have r2 : w6.cell? ⟨w.heap.size, 2, none⟩ = some (.int .i64 0) := hR6'.cell 2
    go_wp2
    refine bodyPost_ret (v := .tuple #[.int .i64 0, .int .i64 0, .agg #[.int .i64 0, .int .i64 0, .int .i64 0], .int .i64 1]) (by simp [results, Try.results9, go_sem, r0, r1, r2]) rfl ?_
    exact ⟨by rw [E.out]; rfl, HBw.out.grown hg6 (by have h9 := HZ2.out.lt; omega) (fun q hq => by injection hq with hq; omega)⟩
end Go.Proofs.Ytlbllonpodckgaa
