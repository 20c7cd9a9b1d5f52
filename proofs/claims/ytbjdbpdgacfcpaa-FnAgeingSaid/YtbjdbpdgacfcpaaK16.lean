/- Parts of a proof, one after another: Age2, Price, RlP. No condition. -/
import Derived.Test.YtbjdbpdgacfcpaaK8
import Derived.Test.YtbjdbpdgacfcpaaK9
import Derived.Test.YtbjdbpdgacfcpaaK15
/- A portfolio grown older: the program (printed by age.py). -/
section
namespace Go.Proofs.Ytbjdbpdgacfcpaa
open Go.RowKit Go.BigFrame

set_option maxRecDepth 20000 in
set_option maxHeartbeats 8000000 in
theorem impl_AgePortfolio_any (b : Bas) (A : Option Addr) (n cap : Nat) (H : Option Addr) (m hcap : Nat) (xs : List Holding) (Y : Option Addr) (my ycap : Nat) (ys : List Int) (w : World) (hB : BasT w A n cap b) (hl : xs.length = m) (hm : m ≤ 1048576) (hX : Rd w w.heap.size H 7 (holdingRows xs)) (hf : ∀ x ∈ xs, x.fits) (hl2 : ys.length = my) (hm2 : my ≤ 1048576) (hY : Rd w w.heap.size Y 1 (intRows ys)) (hfy : ∀ y ∈ ys, In64 y) :
    Calls Try.prog 49 #[.agg #[.int .i64 b.first, .slice A n cap, .int .i64 b.rate], .slice H m hcap, .slice Y my ycap] w fun e w' => ∃ A' n' c', e = .returned (.tuple #[.slice A' n' c', .int .i64 (ageP b xs ys).2]) ∧ Res w.heap.size w' 37 7 A' n' c' (holdingRows (ageP b xs ys).1) ∧ Below w.heap.size w w' := by
  have HF := Lib.hid hf; clear hf
  have HFY := Lib.hid hfy; clear hfy
  have HL := Lib.hid hl; clear hl
  have HL2 := Lib.hid hl2; clear hl2
  have HB := Lib.hid (Below.refl w.heap.size w)
  have HH := Lib.hid (((Held.nil w).cons hX).cons hY); clear hX hY
  have HT := Lib.hid hB; clear hB
  obtain ⟨hb, hr0⟩ := box1 (w := w) (tx := 28) (X := [.int .i64 b.first, .slice A n cap, .int .i64 b.rate])
  replace HB := Lib.hid (below_all HB.out hb)
  replace HT := Lib.hid (HT.out.past hb)
  replace HH := Lib.hid ((HH.out.past hb).cons hr0)
  clear hb hr0
  by_cases hd : deathCode b xs ys = 0
  · skip
    obtain ⟨hp, hlen, hdead⟩ := deathCode_ok hd
    have hlm : my = m := by rw [← HL.out, ← HL2.out]; exact hlen
    have hm30 : m ≤ 30 := by have := (port_hold hp).1; rw [HL.out] at this; exact this
    have HHO := Lib.hid (port_hold hp).2
    have HP := Lib.hid hp
    have HDD := Lib.hid hdead
    have HD0 := Lib.hid hd
    have QA := Lib.hid (show ageP b xs ys = if (xs.zip ys).any (fun p => stuckB b p.1 p.2) = true then ([], 5) else (olderL b (xs.zip ys), 0) from if_pos hd)
    obtain ⟨i0, hi0, hz0, hz1, hz2⟩ := Holding.parts7
    have HI := Lib.hid (And.intro hi0 (And.intro hz0 (And.intro hz1 hz2))); clear hi0 hz0 hz1 hz2 hdead hp hlen
    have HLM := Lib.hid hlm; clear hlm hd
    have HL3 := HL2
    replace HL2 := Lib.hid (HL2.out.trans HLM.out)
    go_enter Try.func49, Try.ntmps49
    have HL_bx := Lib.hid (Rd.box (HH.out.get 0 rfl))
    go_wp2_with (refine wpList_load_agg rfl 28 _ rfl ⟨w.heap.size, 0, none⟩ rfl [.int .i64 b.first, .slice A n cap, .int .i64 b.rate] HL_bx.out _ Try.underlying28 rfl Bas.size ?_)
    clear HL_bx
    generalize (w.alloc (.cells #[.int .i64 b.first, .slice A n cap, .int .i64 b.rate] 28)) = v0 at HB HH HT ⊢
    generalize w.heap.size = g0_0 at HH ⊢
    refine (impl_checkDeaths_any b A n cap H m hcap xs Y my ycap ys _ HT.out HL.out hm (HH.out.get 2 rfl) HF.out HL3.out hm2 (HH.out.get 1 rfl) HFY.out).mono ?_
    rw [HD0.out]
    rintro e w1 ⟨rfl, hb⟩
    replace HB := Lib.hid (below_all HB.out hb)
    replace HT := Lib.hid (HT.out.past hb)
    replace HH := Lib.hid (HH.out.past hb)
    clear hb
    have HH1 := HH
    have HT1 := HT
    have HB1 := HB
    have HR0 := Lib.hid (Res.zero w1 w1.heap.size 37 7 (Nat.le_refl _))
    go_wp2
    go_loopw [9, 22] (fun o i wr => ∃ (k : Nat) (O : Option Addr) (oq oc : Nat), k ≤ m ∧ i = .int .i64 k ∧ o = .slice O oq oc ∧ Hid (((xs.zip ys).take k).any (fun p => stuckB b p.1 p.2) = false) ∧ Hid (Res w1.heap.size wr 37 7 O oq oc (holdingRows (olderL b ((xs.zip ys).take k)))) ∧ Below w1.heap.size w1 wr) (fun _ i _ => m - (intOf i).toNat)
    case atStart => exact ⟨0, _, _, _, by omega, rfl, rfl, Lib.hid rfl, HR0, (Below.refl _ _).alloc (Nat.le_refl _) _⟩
    case round =>
      clear HB HH HT
      obtain ⟨k, O, oq, oc, hk, rfl, rfl, HNS, HR, hb⟩ := hrel
      have HW := Lib.hid hb
      have HH := Lib.hid (HH1.out.past hb)
      have HT := Lib.hid (HT1.out.past hb)
      have HB := Lib.hid (HB1.out.trans (hb.mono HB1.out.size))
      clear hb
      by_cases hlt : k < m
      · skip
        obtain ⟨x, hx⟩ := get_of_lt (xs := xs) (k := k) (by rw [HL.out]; exact hlt)
        obtain ⟨y, hy⟩ := get_of_lt (xs := ys) (k := k) (by rw [HL2.out]; exact hlt)
        obtain ⟨ad, rfl, had, _, hc⟩ := ((HH.out.get 2 rfl)).at' (holdingRows_get hx)
        obtain ⟨ay, rfl, hay, hcy⟩ := ((HH.out.get 1 rfl)).int_at hy
        have HZ := Lib.hid (pair_get hx hy)
        have Hc := Lib.hid hc; clear hc
        have HCY := Lib.hid hcy; clear hcy
        have HYA := Lib.hid hay; clear hay
        have hyi := HFY.out y (List.mem_of_getElem? hy)
        have hxi := HF.out x (List.mem_of_getElem? hx)
        have hki : (k : Int) < (m : Int) := by omega
        have hk63 : (k : Int) < 1048576 := by omega
        have Hx := Lib.hid (HHO.out x (List.mem_of_getElem? hx))
        have HYD := Lib.hid (dead_get HDD.out hx hy)
        obtain ⟨y0, y1⟩ := HYD.out
        obtain ⟨⟨c0, c1⟩, HYO⟩ := hold_ok Hx.out
        have HPO := Lib.hid HYO.toPolOk
        have hd1 := dur_low HPO.out
        have hd2 := dur_bound HPO.out
        have k0 : 0 ≤ x.year := HYO.k0
        have k1 : x.year ≤ durP b x.pol - 1 := HYO.k1
        have a1 : x.age ≤ 150 := HPO.out.age1
        have a0 : b.first ≤ x.age := HPO.out.age0
        have t0 := HPO.out.tab.first0
        have t1 := HPO.out.tab.first1
        have holn : oq ≤ 30 := by have := HR.out.len; rw [holdingRows_length] at this; have h2 := olderL_length b ((xs.zip ys).take k); rw [List.length_take, List.length_zip] at h2; omega
        clear HYO hx hy hxi hyi
        have HCN := Lib.hid (show (wr.alloc (.cells #[.int .i64 x.kind, .int .i64 x.age, .int .i64 x.years, .int .i64 x.sum, .int .i64 x.load, .int .i64 x.year, .int .i64 x.count] 37)).cell? (ay.add k) = some (.int .i64 y) from (((Below.refl wr.heap.size wr).alloc (Nat.le_refl _) (.cells #[.int .i64 x.kind, .int .i64 x.age, .int .i64 x.years, .int .i64 x.sum, .int .i64 x.load, .int .i64 x.year, .int .i64 x.count] 37)).cell (p := ay.add k) (by rw [block_of_add]; exact HYA.out)).trans HCY.out)
        have hcn := HCN.out
        obtain ⟨hb, hr0⟩ := age_box wr x y
        have HR8 := Lib.hid (HR.out.past hb)
        replace HW := Lib.hid (HW.out.trans (hb.mono HW.out.size))
        replace HB := Lib.hid (below_all HB.out hb)
        replace HT := Lib.hid (HT.out.past hb)
        replace HH := Lib.hid ((HH.out.past hb).cons hr0)
        clear hb hr0
        have hmy : (k : Int) < (my : Int) := by have := HLM.out; omega
        go_upto_region 8 with (refine wpList_load_agg rfl 37 _ rfl (ad.add (k * 7)) rfl [.int .i64 x.kind, .int .i64 x.age, .int .i64 x.years, .int .i64 x.sum, .int .i64 x.load, .int .i64 x.year, .int .i64 x.count] Hc.out _ Try.underlying37 rfl Holding.size ?_)
        go_region
        go_upto_region 10 with fail
        generalize (wr.alloc (.cells #[.int .i64 x.kind, .int .i64 x.age, .int .i64 x.years, .int .i64 x.sum, .int .i64 x.load, .int .i64 (x.year + 1), .int .i64 (x.count - y)] 37)).drew = v9 at HB HH HT HW HR8 ⊢
        generalize wr.heap.size = g9 at HH ⊢
        clear hcn HCN
        replace HR := HR8; clear HR8
        cases hc0 : (x.count - y == 0)
        · skip
          have hz0 : (x.count - y == 0) = false := hc0
          cases hy0 : (x.year + 1 == durP b x.pol)
          · skip
            have HG := Lib.hid (show goneB b x y = false by unfold goneB; rw [hc0, hy0]; rfl)
            have HY0 := Lib.hid hy0
            have hyd : x.year + 1 ≤ durP b x.pol - 1 := by
              have h : ¬ x.year + 1 = durP b x.pol := by simpa using hy0
              omega
            clear hc0
            have d0 := fun yq : Past v9 => Past.cell (p := ⟨g9, 0, none⟩) (v := .int .i64 x.kind) (Rd.bcell (HH.out.get 0 rfl) 0 rfl) yq
            have d1 := fun yq : Past v9 => Past.cell (p := ⟨g9, 1, none⟩) (v := .int .i64 x.age) (Rd.bcell (HH.out.get 0 rfl) 1 rfl) yq
            have d2 := fun yq : Past v9 => Past.cell (p := ⟨g9, 2, none⟩) (v := .int .i64 x.years) (Rd.bcell (HH.out.get 0 rfl) 2 rfl) yq
            have d3 := fun yq : Past v9 => Past.cell (p := ⟨g9, 3, none⟩) (v := .int .i64 x.sum) (Rd.bcell (HH.out.get 0 rfl) 3 rfl) yq
            have d4 := fun yq : Past v9 => Past.cell (p := ⟨g9, 4, none⟩) (v := .int .i64 x.load) (Rd.bcell (HH.out.get 0 rfl) 4 rfl) yq
            have d5 := fun yq : Past v9 => Past.cell (p := ⟨g9, 5, none⟩) (v := .int .i64 (x.year + 1)) (Rd.bcell (HH.out.get 0 rfl) 5 rfl) yq
            have d6 := fun yq : Past v9 => Past.cell (p := ⟨g9, 6, none⟩) (v := .int .i64 (x.count - y)) (Rd.bcell (HH.out.get 0 rfl) 6 rfl) yq
            go_wp2
            have hQ_pq := Lib.hid (Past.cells' (Rd.boxQ (HH.out.get 0 rfl)))
            have hQ_bx := Lib.hid (Past.cells' (Rd.box (HH.out.get 1 rfl)))
            refine wp_region_past (by kernel_rfl) (by kernel_rfl) ?_
            repeat (first | (go_big_quiet_want; (first | (first | (refine quiet_load_agg 28 _ rfl ⟨g0_0, 0, none⟩ rfl [.int .i64 b.first, .slice A n cap, .int .i64 b.rate] hQ_bx.out _ Try.underlying28 rfl Bas.size ?_) | (refine quiet_load_agg 35 _ rfl ⟨g9, 0, none⟩ rfl [.int .i64 x.kind, .int .i64 x.age, .int .i64 x.years, .int .i64 x.sum, .int .i64 x.load] hQ_pq.out _ Try.underlying35 rfl Policy.size ?_))); go_simp; go_big_quiet_on) | go_big_quiet_step ((go_at_call 94; exact past_call (impl_durationOf_any b A n cap x.pol _ (HT.out.at_past _) HPO.out))))
            refine wpQuiet_nil ?_
            rintro _ ⟨y9, rfl⟩
            have hb := y9.2
            replace HW := Lib.hid (HW.out.trans (hb.mono HW.out.size))
            replace HR := Lib.hid (HR.out.past hb)
            replace HB := Lib.hid (below_all HB.out hb)
            replace HT := Lib.hid (HT.out.past hb)
            replace HH := Lib.hid (HH.out.past hb)
            clear hb
            clear hQ_bx
            clear hQ_pq d0 d1 d2 d3 d4 d5 d6
            obtain ⟨W9, hW9⟩ : ∃ W9, W9 = y9.1 := ⟨_, rfl⟩
            rw [← hW9] at HB HH HT HW HR ⊢
            clear hW9 y9
            have HL_hx := Lib.hid (Rd.box (HH.out.get 0 rfl))
            have HL_bx := Lib.hid (Rd.box (HH.out.get 1 rfl))
            go_wp2_with (first | (refine wpList_load_agg rfl 37 _ rfl ⟨g9, 0, none⟩ rfl [.int .i64 x.kind, .int .i64 x.age, .int .i64 x.years, .int .i64 x.sum, .int .i64 x.load, .int .i64 (x.year + 1), .int .i64 (x.count - y)] HL_hx.out _ Try.underlying37 rfl Holding.size ?_) | (refine wpList_load_agg rfl 28 _ rfl ⟨g0_0, 0, none⟩ rfl [.int .i64 b.first, .slice A n cap, .int .i64 b.rate] HL_bx.out _ Try.underlying28 rfl Bas.size ?_))
            clear HL_hx HL_bx
            refine (impl_Holding_parts_at b A n cap (x.older y) _ HT.out HPO.out ⟨(show 0 ≤ x.year + 1 by omega), hyd⟩).mono ?_
            rw [show partD b (x.older y).pol (x.older y).year = b.d (x.age + (x.year + 1)) from rfl]
            rintro e w2 ⟨rfl, hb⟩
            replace HW := Lib.hid (HW.out.trans (hb.mono HW.out.size))
            replace HR := Lib.hid (HR.out.past hb)
            replace HB := Lib.hid (below_all HB.out hb)
            replace HT := Lib.hid (HT.out.past hb)
            replace HH := Lib.hid (HH.out.past hb)
            clear hb
            have hfd := parts_field
            cases hpd : (b.d (x.age + (x.year + 1)) == 0)
            · skip
              have HST := Lib.hid (show stuckB b x y = false by unfold stuckB; rw [hpd]; simp)
              have hs5 : w1.heap.size ≤ w2.heap.size := HW.out.size
              have HL_hx := Lib.hid (Rd.box (HH.out.get 0 rfl))
              go_wp2_with (first | (refine wpList_load_agg rfl 37 _ rfl ⟨g9, 0, none⟩ rfl [.int .i64 x.kind, .int .i64 x.age, .int .i64 x.years, .int .i64 x.sum, .int .i64 x.load, .int .i64 (x.year + 1), .int .i64 (x.count - y)] HL_hx.out _ Try.underlying37 rfl Holding.size ?_) | (at_builtin; refine wpList_append_row w2 rfl (.tmp 56) (.tmp 58) 29 rfl w1.heap.size 37 i0 _ 7 56 Try.underlying29 HI.out.1 HI.out.2.1 HI.out.2.2.1 HI.out.2.2.2 rfl (by decide) (by decide) O oq oc _ rfl HR.out [.int .i64 x.kind, .int .i64 x.age, .int .i64 x.years, .int .i64 x.sum, .int .i64 x.load, .int .i64 (x.year + 1), .int .i64 (x.count - y)] _ rfl rfl (by simp [Value.oneCell']) (by omega) hs5 ?_))
              intro B2 c2 w5 hR5 hb5
              have HR5 := Lib.hid hR5; clear hR5
              have HW5 := Lib.hid (HW.out.trans hb5); clear hb5
              go_wp2
              go_roundw
              case rel => exact ⟨k + 1, B2, oq + 1, c2, by omega, by go_num, rfl, Lib.hid (any_succ HNS.out HZ.out HST.out), Lib.hid (by rw [olderL_keep HZ.out HG.out, holdingRows_snoc, older_row]; exact HR5.out), HW5.out⟩
              case measure => simp [intOf]; omega
            · skip
              have Q := Lib.hid (show ageP b xs ys = ([], 5) by rw [QA.out, if_pos (any_stop HZ.out (show stuckB b x y = true by unfold stuckB; rw [HG.out, hpd]; rfl))])
              go_wp2
              go_ret2
              exact ⟨none, 0, 0, by rw [Q.out]; rfl, by rw [Q.out]; exact Res.nil_, HB.out⟩
          · skip
            have HG := Lib.hid (show goneB b x y = true by unfold goneB; rw [hc0, hy0]; simp)
            have HST := Lib.hid (show stuckB b x y = false by unfold stuckB; rw [HG.out]; rfl)
            clear hc0
            have d0 := fun yq : Past v9 => Past.cell (p := ⟨g9, 0, none⟩) (v := .int .i64 x.kind) (Rd.bcell (HH.out.get 0 rfl) 0 rfl) yq
            have d1 := fun yq : Past v9 => Past.cell (p := ⟨g9, 1, none⟩) (v := .int .i64 x.age) (Rd.bcell (HH.out.get 0 rfl) 1 rfl) yq
            have d2 := fun yq : Past v9 => Past.cell (p := ⟨g9, 2, none⟩) (v := .int .i64 x.years) (Rd.bcell (HH.out.get 0 rfl) 2 rfl) yq
            have d3 := fun yq : Past v9 => Past.cell (p := ⟨g9, 3, none⟩) (v := .int .i64 x.sum) (Rd.bcell (HH.out.get 0 rfl) 3 rfl) yq
            have d4 := fun yq : Past v9 => Past.cell (p := ⟨g9, 4, none⟩) (v := .int .i64 x.load) (Rd.bcell (HH.out.get 0 rfl) 4 rfl) yq
            have d5 := fun yq : Past v9 => Past.cell (p := ⟨g9, 5, none⟩) (v := .int .i64 (x.year + 1)) (Rd.bcell (HH.out.get 0 rfl) 5 rfl) yq
            have d6 := fun yq : Past v9 => Past.cell (p := ⟨g9, 6, none⟩) (v := .int .i64 (x.count - y)) (Rd.bcell (HH.out.get 0 rfl) 6 rfl) yq
            go_wp2
            have hQ_pq := Lib.hid (Past.cells' (Rd.boxQ (HH.out.get 0 rfl)))
            have hQ_bx := Lib.hid (Past.cells' (Rd.box (HH.out.get 1 rfl)))
            refine wp_region_past (by kernel_rfl) (by kernel_rfl) ?_
            repeat (first | (go_big_quiet_want; (first | (first | (refine quiet_load_agg 28 _ rfl ⟨g0_0, 0, none⟩ rfl [.int .i64 b.first, .slice A n cap, .int .i64 b.rate] hQ_bx.out _ Try.underlying28 rfl Bas.size ?_) | (refine quiet_load_agg 35 _ rfl ⟨g9, 0, none⟩ rfl [.int .i64 x.kind, .int .i64 x.age, .int .i64 x.years, .int .i64 x.sum, .int .i64 x.load] hQ_pq.out _ Try.underlying35 rfl Policy.size ?_))); go_simp; go_big_quiet_on) | go_big_quiet_step ((go_at_call 94; exact past_call (impl_durationOf_any b A n cap x.pol _ (HT.out.at_past _) HPO.out))))
            refine wpQuiet_nil ?_
            rintro _ ⟨y9, rfl⟩
            have hb := y9.2
            replace HW := Lib.hid (HW.out.trans (hb.mono HW.out.size))
            replace HR := Lib.hid (HR.out.past hb)
            replace HB := Lib.hid (below_all HB.out hb)
            replace HT := Lib.hid (HT.out.past hb)
            replace HH := Lib.hid (HH.out.past hb)
            clear hb
            clear hQ_bx
            clear hQ_pq d0 d1 d2 d3 d4 d5 d6
            go_wp2
            go_roundw
            case rel => exact ⟨k + 1, O, oq, oc, by omega, by go_num, rfl, Lib.hid (any_succ HNS.out HZ.out HST.out), Lib.hid (by rw [olderL_skip HZ.out HG.out]; exact HR.out), HW.out⟩
            case measure => simp [intOf]; omega
        · skip
          have HG := Lib.hid (show goneB b x y = true by unfold goneB; rw [hc0]; simp)
          have HST := Lib.hid (show stuckB b x y = false by unfold stuckB; rw [HG.out]; rfl)
          have hz0 : (x.count - y == 0) = true := hc0
          clear hc0
          have d0 := fun yq : Past v9 => Past.cell (p := ⟨g9, 0, none⟩) (v := .int .i64 x.kind) (Rd.bcell (HH.out.get 0 rfl) 0 rfl) yq
          have d1 := fun yq : Past v9 => Past.cell (p := ⟨g9, 1, none⟩) (v := .int .i64 x.age) (Rd.bcell (HH.out.get 0 rfl) 1 rfl) yq
          have d2 := fun yq : Past v9 => Past.cell (p := ⟨g9, 2, none⟩) (v := .int .i64 x.years) (Rd.bcell (HH.out.get 0 rfl) 2 rfl) yq
          have d3 := fun yq : Past v9 => Past.cell (p := ⟨g9, 3, none⟩) (v := .int .i64 x.sum) (Rd.bcell (HH.out.get 0 rfl) 3 rfl) yq
          have d4 := fun yq : Past v9 => Past.cell (p := ⟨g9, 4, none⟩) (v := .int .i64 x.load) (Rd.bcell (HH.out.get 0 rfl) 4 rfl) yq
          have d5 := fun yq : Past v9 => Past.cell (p := ⟨g9, 5, none⟩) (v := .int .i64 (x.year + 1)) (Rd.bcell (HH.out.get 0 rfl) 5 rfl) yq
          have d6 := fun yq : Past v9 => Past.cell (p := ⟨g9, 6, none⟩) (v := .int .i64 (x.count - y)) (Rd.bcell (HH.out.get 0 rfl) 6 rfl) yq
          go_wp2
          have hQ_pq := Lib.hid (Past.cells' (Rd.boxQ (HH.out.get 0 rfl)))
          refine wp_region_past (by kernel_rfl) (by kernel_rfl) ?_
          repeat (go_big_quiet_step (fail))
          refine wpQuiet_nil ?_
          rintro _ ⟨y9, rfl⟩
          have hb := y9.2
          replace HW := Lib.hid (HW.out.trans (hb.mono HW.out.size))
          replace HR := Lib.hid (HR.out.past hb)
          replace HB := Lib.hid (below_all HB.out hb)
          replace HT := Lib.hid (HT.out.past hb)
          replace HH := Lib.hid (HH.out.past hb)
          clear hb
          clear hQ_pq d0 d1 d2 d3 d4 d5 d6
          go_wp2
          go_roundw
          case rel => exact ⟨k + 1, O, oq, oc, by omega, by go_num, rfl, Lib.hid (any_succ HNS.out HZ.out HST.out), Lib.hid (by rw [olderL_skip HZ.out HG.out]; exact HR.out), HW.out⟩
          case measure => simp [intOf]; omega
      · have hkn : k = m := by omega
        have hzl : (xs.zip ys).length = m := by rw [List.length_zip, HL.out, HL2.out]; omega
        have Q := Lib.hid (show ageP b xs ys = (olderL b (xs.zip ys), 0) by
          rw [QA.out, show (xs.zip ys).any (fun p => stuckB b p.1 p.2) = false from any_end hzl (by have h := HNS.out; rw [hkn] at h; exact h)]; rfl)
        have HR9 := Lib.hid (show Res w1.heap.size wr 37 7 O oq oc (holdingRows (ageP b xs ys).1) by
          rw [Q.out]; have h := HR.out; rw [hkn, take_all hzl] at h; exact h)
        subst hkn
        go_wp2
        go_ret2
        exact ⟨O, oq, oc, by rw [Q.out]; rfl, HR9.out.more (by have := HB1.out.size; exact this), HB.out⟩
  · skip
    have Q := Lib.hid (show ageP b xs ys = ([], deathCode b xs ys) from if_neg hd)
    have hz : (deathCode b xs ys != 0) = true := by simpa [bne] using hd
    go_enter Try.func49, Try.ntmps49
    have HL_bx := Lib.hid (Rd.box (HH.out.get 0 rfl))
    go_wp2_with (refine wpList_load_agg rfl 28 _ rfl ⟨w.heap.size, 0, none⟩ rfl [.int .i64 b.first, .slice A n cap, .int .i64 b.rate] HL_bx.out _ Try.underlying28 rfl Bas.size ?_)
    clear HL_bx
    generalize (w.alloc (.cells #[.int .i64 b.first, .slice A n cap, .int .i64 b.rate] 28)) = v0 at HB HH HT ⊢
    generalize w.heap.size = g0_0 at HH ⊢
    refine (impl_checkDeaths_any b A n cap H m hcap xs Y my ycap ys _ HT.out HL.out hm (HH.out.get 2 rfl) HF.out HL2.out hm2 (HH.out.get 1 rfl) HFY.out).mono ?_
    rintro e w1 ⟨rfl, hb⟩
    replace HB := Lib.hid (below_all HB.out hb)
    replace HT := Lib.hid (HT.out.past hb)
    replace HH := Lib.hid (HH.out.past hb)
    clear hb
    go_wp2
    go_ret2
    exact ⟨none, 0, 0, by rw [Q.out]; rfl, by rw [Q.out]; exact Res.nil_, HB.out⟩
end Go.Proofs.Ytbjdbpdgacfcpaa
end

/- Prices of assurances that need be no policies: the program's contracts. -/
section
namespace Go.Proofs.Ytbjdbpdgacfcpaa
open Go.RowKit Go.BigFrame

structure AssOk (b : Bas) (kind age n sum : Int) : Prop where
  kind0 : 0 ≤ kind
  kind1 : kind ≤ 3
  age0 : b.first ≤ age
  age1 : age ≤ 150
  sum0 : 1 ≤ sum
  sum1 : sum ≤ 100000000
  yrs0 : 0 ≤ n
  yrs1 : n ≤ 120
  end1 : age + n ≤ 150
  zero : n = 0 ↔ kind = 0
theorem assur_ok {b : Bas} {kind age n sum : Int} (h : assurB b kind age n sum = true) : AssOk b kind age n sum := by
  simp only [assurB, Bool.and_eq_true, inR_true, decide_eq_true_eq, beq_iff_eq, decide_eq_decide] at h
  obtain ⟨⟨k0, k1⟩, _, ⟨a0, a1⟩, ⟨s0, s1⟩, ⟨y0, y1⟩, e1, z⟩ := h
  exact ⟨k0, k1, a0, a1, s0, s1, y0, y1, e1, z⟩
theorem assur_mk {b : Bas} {kind age n sum : Int} (hr : 0 ≤ b.rate ∧ b.rate ≤ 200) (h : AssOk b kind age n sum) : assurB b kind age n sum = true := by
  simp only [assurB, Bool.and_eq_true, inR_true, decide_eq_true_eq, beq_iff_eq, decide_eq_decide]
  exact ⟨⟨h.kind0, h.kind1⟩, hr, ⟨h.age0, h.age1⟩, ⟨h.sum0, h.sum1⟩, ⟨h.yrs0, h.yrs1⟩, h.end1, h.zero⟩
set_option maxHeartbeats 4000000 in
theorem impl_checkAssurance_at (b : Bas) (A : Option Addr) (n cap : Nat) (p : Policy) (w : World) (hB : BasT w A n cap b) (hbs : basisB b = true) (has : assurB b p.kind p.age p.years p.sum = true) (hdd : b.d p.age ≠ 0) :
    Calls Try.prog 67 #[.agg #[.int .i64 b.first, .slice A n cap], .int .i64 b.rate, .int .i64 p.kind, .int .i64 p.age, .int .i64 p.years, .int .i64 p.sum] w fun e w' =>
      e = .returned (.tuple #[.agg #[.int .i64 (b.top p.kind p.age p.years), .int .i64 (b.d p.age), .int .i64 (b.base p.kind p.age p.years)], .int .i64 0]) ∧ Below w.heap.size w w' := by
  have hbw := boxes_below (w := w) (X := [.int .i64 b.first, .slice A n cap]) (Y := [.int .i64 0, .int .i64 0, .int .i64 0]) (tx := 26) (ty := 73)
  have HB := Lib.hid ((Blk.new w 26 #[.int .i64 b.first, .slice A n cap]).alloc (.cells #[.int .i64 0, .int .i64 0, .int .i64 0] 73))
  have HR := Lib.hid (Blk.new (w.alloc (.cells #[.int .i64 b.first, .slice A n cap] 26)) 73 #[.int .i64 0, .int .i64 0, .int .i64 0])
  rw [World.size_alloc] at HR
  have HBT := Lib.hid (hB.past hbw); clear hB
  have B := basis_ok hbs
  have Q := assur_ok has
  have hpp : (tableB b.first b.lives = true ∧ inR b.rate 0 200 = true) ∧ assurB b p.kind p.age p.years p.sum = true ∧ True := ⟨by simpa [basisB, Bool.and_eq_true] using hbs, has, trivial⟩
  have HPP := Lib.hid hpp; clear hpp
  have a1 := Q.age0; have a2 := Q.age1; have y1 := Q.yrs0; have y2 := Q.yrs1; have e1 := Q.end1; have f1 := B.tab.first0; have f2 := B.tab.first1
  have hd : 1 ≤ b.d p.age := by have := d_bound B p.age; omega
  have HPO := Lib.hid B; clear B Q hdd has hbs
  have QB := Lib.hid (ben_top (b := b) (kind := p.kind) (age := p.age) (n := p.years) a1 y1)
  obtain ⟨k, hk⟩ := Int.eq_ofNat_of_zero_le (show 0 ≤ p.age - b.first by omega)
  obtain ⟨m, hm⟩ := Int.eq_ofNat_of_zero_le (show 0 ≤ p.age + p.years - b.first by omega)
  have HE0 := Lib.hid (show b.ix p.age = k by unfold Bas.ix; omega)
  have HE1 := Lib.hid (show b.ix (p.age + p.years) = m by unfold Bas.ix; omega)
  have QD := Lib.hid (show b.d p.age = dC b.lives b.rate k by unfold Bas.d; rw [HE0.out])
  rw [HE0.out, HE1.out] at QB
  rw [QD.out] at hd
  have hkt : k < (151 - b.first).toNat := by omega
  have hmt : m < (151 - b.first).toNat := by omega
  have htop : (((151 - b.first).toNat : Nat) : Int) = 151 - b.first := by omega
  obtain ⟨top, htp⟩ : ∃ top, (151 - b.first).toNat = top := ⟨_, rfl⟩
  rw [htp] at hkt hmt htop
  have HTP := Lib.hid htp; clear htp
  have hki : (k : Int) < (top : Int) := by omega
  have hmi : (m : Int) < (top : Int) := by omega
  clear htop
  go_enter Try.func67, Try.ntmps67
  go_wp2_with fail
  refine (impl_IsLifeTable_any b.first A n cap b.lives _ HBT.out.lives HBT.out.cap HBT.out.first).mono ?_
  rw [HPP.out.1.1]
  rintro e w1 ⟨rfl, hb1⟩
  have HB1 := Lib.hid (HB.out.below' hb1)
  have HR1 := Lib.hid (HR.out.below' hb1)
  have HBT1 := Lib.hid (HBT.out.past hb1)
  have hbw1 := hbw.trans (hb1.mono hbw.size)
  have hcT := Lib.hid (Blk.agg (cs := [.int .i64 b.first, .slice A n cap]) HB1.out 0 [.int .i64 b.first, .slice A n cap] rfl)
  go_wp2_with (refine wpList_load_agg rfl 26 _ rfl ⟨w.heap.size, 0, none⟩ rfl [.int .i64 b.first, .slice A n cap] hcT.out _ Try.underlying26 rfl Tab.size ?_)
  clear hcT
  refine (impl_isAssurance_any b A n cap p.kind p.age p.years p.sum _ ⟨by omega, by omega⟩).mono ?_
  rw [HPP.out.2.1]
  rintro e w2 ⟨rfl, hb2⟩
  have HB2 := Lib.hid (HB1.out.below' hb2)
  have HR2 := Lib.hid (HR1.out.below' hb2)
  have HBT2 := Lib.hid (HBT1.out.past hb2)
  have hbw2 := hbw1.trans (hb2.mono hbw1.size)
  have hcT := Lib.hid (Blk.agg (cs := [.int .i64 b.first, .slice A n cap]) HB2.out 0 [.int .i64 b.first, .slice A n cap] rfl)
  go_wp2_with (refine wpList_load_agg rfl 26 _ rfl ⟨w.heap.size, 0, none⟩ rfl [.int .i64 b.first, .slice A n cap] hcT.out _ Try.underlying26 rfl Tab.size ?_)
  clear hcT
  refine (impl_columnsOf_any b.first A n cap b.lives b.rate _ HBT2.out.lives HPO.out.tab ⟨HPO.out.rate0, HPO.out.rate1⟩).mono ?_
  rw [HTP.out]
  rintro e w3 ⟨g, rfl, hL, hb3⟩
  have HB3 := Lib.hid (HB2.out.below' hb3)
  have HR3 := Lib.hid (HR2.out.below' hb3)
  have hbw3 := hbw2.trans (hb3.mono hbw2.size)
  obtain ⟨ad, had0, hadB, _, hc1⟩ := hL.at' (colRows_get (xs := b.lives) (rate := b.rate) hkt)
  obtain ⟨ad', had1, _, _, hc2⟩ := hL.at' (colRows_get (xs := b.lives) (rate := b.rate) hmt)
  obtain rfl : ad' = ad := by rw [had0] at had1; injection had1 with had1; exact had1.symm
  rw [had0] at *
  have b0 : w3.cell? ⟨w.heap.size, 0, none⟩ = some (.int .i64 b.first) := HB3.out.cell 0
  have u0 : w3.cell? (ad'.add (k * 4)) = some (.int .i64 (dC b.lives b.rate k)) := by have := hc1 0 _ rfl; rwa [Addr.add_zero'] at this
  have u1 : w3.cell? ⟨(ad'.add (k * 4)).block, (ad'.add (k * 4)).off + 1, none⟩ = some (.int .i64 (nC b.lives b.rate k)) := hc1 1 _ rfl
  have u2 : w3.cell? ⟨(ad'.add (k * 4)).block, (ad'.add (k * 4)).off + 2, none⟩ = some (.int .i64 (cC b.lives b.rate k)) := hc1 2 _ rfl
  have u3 : w3.cell? ⟨(ad'.add (k * 4)).block, (ad'.add (k * 4)).off + 3, none⟩ = some (.int .i64 (mC b.lives b.rate k)) := hc1 3 _ rfl
  have v0 : w3.cell? (ad'.add (m * 4)) = some (.int .i64 (dC b.lives b.rate m)) := by have := hc2 0 _ rfl; rwa [Addr.add_zero'] at this
  have v1 : w3.cell? ⟨(ad'.add (m * 4)).block, (ad'.add (m * 4)).off + 1, none⟩ = some (.int .i64 (nC b.lives b.rate m)) := hc2 1 _ rfl
  have v2 : w3.cell? ⟨(ad'.add (m * 4)).block, (ad'.add (m * 4)).off + 2, none⟩ = some (.int .i64 (cC b.lives b.rate m)) := hc2 2 _ rfl
  have v3 : w3.cell? ⟨(ad'.add (m * 4)).block, (ad'.add (m * 4)).off + 3, none⟩ = some (.int .i64 (mC b.lives b.rate m)) := hc2 3 _ rfl
  clear hc1 hc2
  have hs3 : w.heap.size < w3.heap.size := HB3.out.lt
  have hs4 : w.heap.size + 1 < w3.heap.size := HR3.out.lt
  have hs5 : (ad'.add (k * 4)).block < w3.heap.size := by rw [block_of_add]; exact hadB
  have hs6 : (ad'.add (m * 4)).block < w3.heap.size := by rw [block_of_add]; exact hadB
  have hk0 : 0 ≤ (k : Int) := by omega
  have hm0 : 0 ≤ (m : Int) := by omega
  go_wp2
  go_region
  · obtain ⟨w4, hw4⟩ : ∃ w4, ((w3.alloc (.cells #[.int .i64 (dC b.lives b.rate k), .int .i64 (nC b.lives b.rate k), .int .i64 (cC b.lives b.rate k), .int .i64 (mC b.lives b.rate k)] 116)).alloc (.cells #[.int .i64 (dC b.lives b.rate m), .int .i64 (nC b.lives b.rate m), .int .i64 (cC b.lives b.rate m), .int .i64 (mC b.lives b.rate m)] 116)).drew = w4 := ⟨_, rfl⟩
    have Hf := Lib.hid (((Blk.new w3 116 #[.int .i64 (dC b.lives b.rate k), .int .i64 (nC b.lives b.rate k), .int .i64 (cC b.lives b.rate k), .int .i64 (mC b.lives b.rate k)]).alloc (.cells #[.int .i64 (dC b.lives b.rate m), .int .i64 (nC b.lives b.rate m), .int .i64 (cC b.lives b.rate m), .int .i64 (mC b.lives b.rate m)] 116)).drew)
    have Hs := Lib.hid ((Blk.new (w3.alloc (.cells #[.int .i64 (dC b.lives b.rate k), .int .i64 (nC b.lives b.rate k), .int .i64 (cC b.lives b.rate k), .int .i64 (mC b.lives b.rate k)] 116)) 116 #[.int .i64 (dC b.lives b.rate m), .int .i64 (nC b.lives b.rate m), .int .i64 (cC b.lives b.rate m), .int .i64 (mC b.lives b.rate m)]).drew)
    rw [World.size_alloc] at Hs
    have HR4 := Lib.hid (((HR3.out.alloc (.cells #[.int .i64 (dC b.lives b.rate k), .int .i64 (nC b.lives b.rate k), .int .i64 (cC b.lives b.rate k), .int .i64 (mC b.lives b.rate k)] 116)).alloc (.cells #[.int .i64 (dC b.lives b.rate m), .int .i64 (nC b.lives b.rate m), .int .i64 (cC b.lives b.rate m), .int .i64 (mC b.lives b.rate m)] 116)).drew)
    have hb4 : Below w3.heap.size w3 w4 := by rw [← hw4]; exact (((Below.refl _ w3).alloc (Nat.le_refl _) _).alloc (by simp) _).drew
    rw [hw4] at Hf Hs HR4
    rw [hw4]
    clear hw4 u0 u1 u2 u3 v0 v1 v2 v3 b0
    have n0 : w4.cell? ⟨w3.heap.size, 0, none⟩ = some (.int .i64 (dC b.lives b.rate k)) := Hf.out.cell 0
    have hcN := Lib.hid (Blk.agg (cs := [.int .i64 (dC b.lives b.rate k), .int .i64 (nC b.lives b.rate k), .int .i64 (cC b.lives b.rate k), .int .i64 (mC b.lives b.rate k)]) Hf.out 0 [.int .i64 (dC b.lives b.rate k), .int .i64 (nC b.lives b.rate k), .int .i64 (cC b.lives b.rate k), .int .i64 (mC b.lives b.rate k)] rfl)
    have hcL := Lib.hid (Blk.agg (cs := [.int .i64 (dC b.lives b.rate m), .int .i64 (nC b.lives b.rate m), .int .i64 (cC b.lives b.rate m), .int .i64 (mC b.lives b.rate m)]) Hs.out 0 [.int .i64 (dC b.lives b.rate m), .int .i64 (nC b.lives b.rate m), .int .i64 (cC b.lives b.rate m), .int .i64 (mC b.lives b.rate m)] rfl)
    have hdz : ¬ dC b.lives b.rate k = 0 := by omega
    have z1 := nC_bound HPO.out.tab HPO.out.rate0 k; have z2 := mC_bound HPO.out.tab HPO.out.rate0 k; have z3 := nC_bound HPO.out.tab HPO.out.rate0 m; have z4 := mC_bound HPO.out.tab HPO.out.rate0 m; have z5 := dC_bound HPO.out.tab HPO.out.rate0 k; have z6 := dC_bound HPO.out.tab HPO.out.rate0 m
    go_wp2_with (first | (refine wpList_load_agg rfl 116 _ rfl ⟨w3.heap.size, 0, none⟩ rfl [.int .i64 (dC b.lives b.rate k), .int .i64 (nC b.lives b.rate k), .int .i64 (cC b.lives b.rate k), .int .i64 (mC b.lives b.rate k)] hcN.out _ Try.underlying116 rfl Columns.size ?_) | (refine wpList_load_agg rfl 116 _ rfl ⟨(w3.heap.size + 1), 0, none⟩ rfl [.int .i64 (dC b.lives b.rate m), .int .i64 (nC b.lives b.rate m), .int .i64 (cC b.lives b.rate m), .int .i64 (mC b.lives b.rate m)] hcL.out _ Try.underlying116 rfl Columns.size ?_))
    refine (impl_benefits_any p.kind (dC b.lives b.rate k) (nC b.lives b.rate k) (cC b.lives b.rate k) (mC b.lives b.rate k) (dC b.lives b.rate m) (nC b.lives b.rate m) (cC b.lives b.rate m) (mC b.lives b.rate m) _ ⟨by omega, by omega⟩ ⟨by omega, by omega⟩ ⟨by omega, by omega⟩ ⟨by omega, by omega⟩ ⟨by omega, by omega⟩).mono ?_
    rw [QB.out.1, QB.out.2]
    rintro e w5 ⟨rfl, hb5⟩
    have HN5 := Lib.hid (Hf.out.below' hb5)
    have HR5 := Lib.hid (HR4.out.below' hb5)
    have n5 : w5.cell? ⟨w3.heap.size, 0, none⟩ = some (.int .i64 (dC b.lives b.rate k)) := HN5.out.cell 0
    clear n0 hcN hcL
    have H1c : Hid (∀ v ∈ ([.int .i64 (b.top p.kind p.age p.years), .int .i64 (dC b.lives b.rate k), .int .i64 (b.base p.kind p.age p.years)] : List Value), v.oneCell' = true) := Lib.hid (by simp [Value.oneCell'])
    go_wp2_with (refine wpList_store_agg rfl 73 _ _ rfl (w.heap.size + 1) 0 [.int .i64 (b.top p.kind p.age p.years), .int .i64 (dC b.lives b.rate k), .int .i64 (b.base p.kind p.age p.years)] rfl rfl 73 #[.int .i64 0, .int .i64 0, .int .i64 0] HR5.out PriceParts.size (by simp) H1c.out ?_)
    intro w6 hR6 hg6 _
    have hR6' : Blk w6 (w.heap.size + 1) 73 #[.int .i64 (b.top p.kind p.age p.years), .int .i64 (dC b.lives b.rate k), .int .i64 (b.base p.kind p.age p.years)] := hR6
    have r0 : w6.cell? ⟨w.heap.size + 1, 0, none⟩ = some (.int .i64 (b.top p.kind p.age p.years)) := hR6'.cell 0
    have r1 : w6.cell? ⟨w.heap.size + 1, 1, none⟩ = some (.int .i64 (dC b.lives b.rate k)) := hR6'.cell 1
    have r2 : w6.cell? ⟨w.heap.size + 1, 2, none⟩ = some (.int .i64 (b.base p.kind p.age p.years)) := hR6'.cell 2
    go_wp2
    have hx : Below w.heap.size w w5 := hbw3.trans ((hb4.mono hbw3.size).trans (hb5.mono (Nat.le_trans hbw3.size hb4.size)))
    refine bodyPost_ret (v := .tuple #[.agg #[.int .i64 (b.top p.kind p.age p.years), .int .i64 (dC b.lives b.rate k), .int .i64 (b.base p.kind p.age p.years)], .int .i64 0]) (by simp [results, Try.results67, go_sem, r0, r1, r2]) rfl ⟨by rw [QD.out], hx.grown hg6 hx.size (fun k hk => by injection hk with hk; omega)⟩
  · obtain ⟨w4, hw4⟩ : ∃ w4, ((w3.alloc (.cells #[.int .i64 (dC b.lives b.rate m), .int .i64 (nC b.lives b.rate m), .int .i64 (cC b.lives b.rate m), .int .i64 (mC b.lives b.rate m)] 116)).alloc (.cells #[.int .i64 (dC b.lives b.rate k), .int .i64 (nC b.lives b.rate k), .int .i64 (cC b.lives b.rate k), .int .i64 (mC b.lives b.rate k)] 116)).drew = w4 := ⟨_, rfl⟩
    have Hf := Lib.hid (((Blk.new w3 116 #[.int .i64 (dC b.lives b.rate m), .int .i64 (nC b.lives b.rate m), .int .i64 (cC b.lives b.rate m), .int .i64 (mC b.lives b.rate m)]).alloc (.cells #[.int .i64 (dC b.lives b.rate k), .int .i64 (nC b.lives b.rate k), .int .i64 (cC b.lives b.rate k), .int .i64 (mC b.lives b.rate k)] 116)).drew)
    have Hs := Lib.hid ((Blk.new (w3.alloc (.cells #[.int .i64 (dC b.lives b.rate m), .int .i64 (nC b.lives b.rate m), .int .i64 (cC b.lives b.rate m), .int .i64 (mC b.lives b.rate m)] 116)) 116 #[.int .i64 (dC b.lives b.rate k), .int .i64 (nC b.lives b.rate k), .int .i64 (cC b.lives b.rate k), .int .i64 (mC b.lives b.rate k)]).drew)
    rw [World.size_alloc] at Hs
    have HR4 := Lib.hid (((HR3.out.alloc (.cells #[.int .i64 (dC b.lives b.rate m), .int .i64 (nC b.lives b.rate m), .int .i64 (cC b.lives b.rate m), .int .i64 (mC b.lives b.rate m)] 116)).alloc (.cells #[.int .i64 (dC b.lives b.rate k), .int .i64 (nC b.lives b.rate k), .int .i64 (cC b.lives b.rate k), .int .i64 (mC b.lives b.rate k)] 116)).drew)
    have hb4 : Below w3.heap.size w3 w4 := by rw [← hw4]; exact (((Below.refl _ w3).alloc (Nat.le_refl _) _).alloc (by simp) _).drew
    rw [hw4] at Hf Hs HR4
    rw [hw4]
    clear hw4 u0 u1 u2 u3 v0 v1 v2 v3 b0
    have n0 : w4.cell? ⟨(w3.heap.size + 1), 0, none⟩ = some (.int .i64 (dC b.lives b.rate k)) := Hs.out.cell 0
    have hcN := Lib.hid (Blk.agg (cs := [.int .i64 (dC b.lives b.rate k), .int .i64 (nC b.lives b.rate k), .int .i64 (cC b.lives b.rate k), .int .i64 (mC b.lives b.rate k)]) Hs.out 0 [.int .i64 (dC b.lives b.rate k), .int .i64 (nC b.lives b.rate k), .int .i64 (cC b.lives b.rate k), .int .i64 (mC b.lives b.rate k)] rfl)
    have hcL := Lib.hid (Blk.agg (cs := [.int .i64 (dC b.lives b.rate m), .int .i64 (nC b.lives b.rate m), .int .i64 (cC b.lives b.rate m), .int .i64 (mC b.lives b.rate m)]) Hf.out 0 [.int .i64 (dC b.lives b.rate m), .int .i64 (nC b.lives b.rate m), .int .i64 (cC b.lives b.rate m), .int .i64 (mC b.lives b.rate m)] rfl)
    have hdz : ¬ dC b.lives b.rate k = 0 := by omega
    have z1 := nC_bound HPO.out.tab HPO.out.rate0 k; have z2 := mC_bound HPO.out.tab HPO.out.rate0 k; have z3 := nC_bound HPO.out.tab HPO.out.rate0 m; have z4 := mC_bound HPO.out.tab HPO.out.rate0 m; have z5 := dC_bound HPO.out.tab HPO.out.rate0 k; have z6 := dC_bound HPO.out.tab HPO.out.rate0 m
    go_wp2_with (first | (refine wpList_load_agg rfl 116 _ rfl ⟨(w3.heap.size + 1), 0, none⟩ rfl [.int .i64 (dC b.lives b.rate k), .int .i64 (nC b.lives b.rate k), .int .i64 (cC b.lives b.rate k), .int .i64 (mC b.lives b.rate k)] hcN.out _ Try.underlying116 rfl Columns.size ?_) | (refine wpList_load_agg rfl 116 _ rfl ⟨w3.heap.size, 0, none⟩ rfl [.int .i64 (dC b.lives b.rate m), .int .i64 (nC b.lives b.rate m), .int .i64 (cC b.lives b.rate m), .int .i64 (mC b.lives b.rate m)] hcL.out _ Try.underlying116 rfl Columns.size ?_))
    refine (impl_benefits_any p.kind (dC b.lives b.rate k) (nC b.lives b.rate k) (cC b.lives b.rate k) (mC b.lives b.rate k) (dC b.lives b.rate m) (nC b.lives b.rate m) (cC b.lives b.rate m) (mC b.lives b.rate m) _ ⟨by omega, by omega⟩ ⟨by omega, by omega⟩ ⟨by omega, by omega⟩ ⟨by omega, by omega⟩ ⟨by omega, by omega⟩).mono ?_
    rw [QB.out.1, QB.out.2]
    rintro e w5 ⟨rfl, hb5⟩
    have HN5 := Lib.hid (Hs.out.below' hb5)
    have HR5 := Lib.hid (HR4.out.below' hb5)
    have n5 : w5.cell? ⟨(w3.heap.size + 1), 0, none⟩ = some (.int .i64 (dC b.lives b.rate k)) := HN5.out.cell 0
    clear n0 hcN hcL
    have H1c : Hid (∀ v ∈ ([.int .i64 (b.top p.kind p.age p.years), .int .i64 (dC b.lives b.rate k), .int .i64 (b.base p.kind p.age p.years)] : List Value), v.oneCell' = true) := Lib.hid (by simp [Value.oneCell'])
    go_wp2_with (refine wpList_store_agg rfl 73 _ _ rfl (w.heap.size + 1) 0 [.int .i64 (b.top p.kind p.age p.years), .int .i64 (dC b.lives b.rate k), .int .i64 (b.base p.kind p.age p.years)] rfl rfl 73 #[.int .i64 0, .int .i64 0, .int .i64 0] HR5.out PriceParts.size (by simp) H1c.out ?_)
    intro w6 hR6 hg6 _
    have hR6' : Blk w6 (w.heap.size + 1) 73 #[.int .i64 (b.top p.kind p.age p.years), .int .i64 (dC b.lives b.rate k), .int .i64 (b.base p.kind p.age p.years)] := hR6
    have r0 : w6.cell? ⟨w.heap.size + 1, 0, none⟩ = some (.int .i64 (b.top p.kind p.age p.years)) := hR6'.cell 0
    have r1 : w6.cell? ⟨w.heap.size + 1, 1, none⟩ = some (.int .i64 (dC b.lives b.rate k)) := hR6'.cell 1
    have r2 : w6.cell? ⟨w.heap.size + 1, 2, none⟩ = some (.int .i64 (b.base p.kind p.age p.years)) := hR6'.cell 2
    go_wp2
    have hx : Below w.heap.size w w5 := hbw3.trans ((hb4.mono hbw3.size).trans (hb5.mono (Nat.le_trans hbw3.size hb4.size)))
    refine bodyPost_ret (v := .tuple #[.agg #[.int .i64 (b.top p.kind p.age p.years), .int .i64 (dC b.lives b.rate k), .int .i64 (b.base p.kind p.age p.years)], .int .i64 0]) (by simp [results, Try.results67, go_sem, r0, r1, r2]) rfl ⟨by rw [QD.out], hx.grown hg6 hx.size (fun k hk => by injection hk with hk; omega)⟩

def priceP (b : Bas) (kind age n sum : Int) : Int := upP sum (b.top kind age n) (b.d age)
set_option maxHeartbeats 2000000 in
theorem impl_AssurancePrice_at (b : Bas) (A : Option Addr) (n cap : Nat) (kind age yrs sum : Int) (w : World) (hB : BasT w A n cap b) (hbs : basisB b = true) (has : assurB b kind age yrs sum = true) (hdd : b.d age ≠ 0) :
    Calls Try.prog 16 #[.agg #[.int .i64 b.first, .slice A n cap], .int .i64 b.rate, .int .i64 kind, .int .i64 age, .int .i64 yrs, .int .i64 sum] w fun e w' =>
      e = .returned (.tuple #[.int .i64 (priceP b kind age yrs sum), .int .i64 0]) ∧ Below w.heap.size w w' := by
  have hbw : Below w.heap.size w (w.alloc (.cells #[.int .i64 b.first, .slice A n cap] 26)) := (Below.refl _ w).alloc (Nat.le_refl _) _
  have HBT := Lib.hid (hB.past hbw); clear hB
  have B := basis_ok hbs
  have t1 := top_bound B kind age yrs
  have t5 := d_bound B age
  have Q := assur_ok has
  have s1 := Q.sum0; have s2 := Q.sum1
  have t6 := mul_div_le (a := sum) (m := 1) (by omega) t1.1 (show 1 ≤ b.d age by omega) (by omega)
  go_enter Try.func16, Try.ntmps16
  go_wp2_with fail
  refine (impl_checkAssurance_at b A n cap ⟨kind, age, yrs, sum, 0⟩ _ HBT.out hbs has hdd).mono ?_
  rintro e w1 ⟨rfl, hb1⟩
  go_wp2_with fail
  refine (impl_priced_any sum (b.top kind age yrs) (b.d age) _ ⟨by omega, by omega⟩ ⟨by omega, by omega⟩ ⟨by omega, by omega⟩ (by omega)).mono ?_
  rintro e w2 ⟨rfl, hb2⟩
  go_wp2
  go_ret2
  exact ⟨rfl, hbw.trans ((hb1.mono (by simp)).trans (((Below.refl _ w1).alloc (Nat.le_refl _) _).trans (hb2.mono (by simp)) |>.mono (by have := hb1.size; simp at this; omega)))⟩
end Go.Proofs.Ytbjdbpdgacfcpaa
end

/- Lists of reserves, risks and what leaving gives: plain functions and laws. No program. -/
section
namespace Go.Proofs.Ytbjdbpdgacfcpaa
open Go.RowKit Go.BigFrame

def rlAt (b : Bas) (p : Policy) (k : Nat) : Int := if partD b p k = 0 then -1 else resAt b p k
def rlN (b : Bas) (p : Policy) : Nat := (durP b p).toNat
def rlTo (b : Bas) (p : Policy) (k : Nat) : List Int := (List.range k).map (rlAt b p)
def wholeTo (b : Bas) (p : Policy) (k : Nat) : Bool := (List.range k).all fun j => decide (partD b p (j : Int) ≠ 0)
theorem rlTo_succ (b : Bas) (p : Policy) (k : Nat) : rlTo b p (k + 1) = rlTo b p k ++ [rlAt b p k] := by simp [rlTo, List.range_succ]
theorem rlTo_length (b : Bas) (p : Policy) (k : Nat) : (rlTo b p k).length = k := by simp [rlTo]
theorem rlTo_get (b : Bas) (p : Policy) {k n : Nat} (h : k < n) : (rlTo b p n)[k]? = some (rlAt b p k) := by simp [rlTo, h]
theorem wholeTo_succ (b : Bas) (p : Policy) (k : Nat) : wholeTo b p (k + 1) = (wholeTo b p k && decide (partD b p (k : Int) ≠ 0)) := by simp [wholeTo, List.range_succ]
theorem wholeTo_zero {b : Bas} {p : Policy} {k : Nat} (h : partD b p (k : Int) = 0) : wholeTo b p (k + 1) = false := by rw [wholeTo_succ]; simp [h]
theorem wholeTo_pos {b : Bas} {p : Policy} {k : Nat} (h : ¬ partD b p (k : Int) = 0) : wholeTo b p (k + 1) = wholeTo b p k := by rw [wholeTo_succ]; simp [h]
theorem wholeTo_at {b : Bas} {p : Policy} {k n : Nat} (h : wholeTo b p n = true) (hk : k < n) : ¬ partD b p (k : Int) = 0 := by
  simp only [wholeTo, List.all_eq_true, List.mem_range, decide_eq_true_eq] at h
  exact h k hk
theorem wholeTo_stop {b : Bas} {p : Policy} {k n : Nat} (h : partD b p (k : Int) = 0) (hk : k < n) : wholeTo b p n = false := by
  cases hw : wholeTo b p n
  · rfl
  · exact absurd h (wholeTo_at hw hk)
def rlP (b : Bas) (p : Policy) : List Int × Int := if polB b p = true then (if wholeTo b p (rlN b p) = true then (rlTo b p (rlN b p), 0) else ([], 5)) else ([], 1)
theorem dur_pos {b : Bas} {p : Policy} (P : PolOk b p) : 1 ≤ durP b p := by
  have h1 := d_age P
  have T := P.tab
  have h2 := P.age0
  unfold durP
  by_cases hk : p.kind = 0
  · rw [if_pos hk]
    have hz := dC_zero (rate := b.rate) T (b.ix p.age)
    have h3 : ¬ b.lives.length - 1 ≤ b.ix p.age := fun h => by have := hz h; unfold Bas.d at h1; omega
    have h4 := T.len0
    unfold Bas.last
    unfold Bas.ix at h3
    omega
  · rw [if_neg hk]
    have := P.yrs0
    have := P.zero
    omega
theorem dur_small {b : Bas} {p : Policy} (P : PolOk b p) : durP b p ≤ 120 := by
  have T := P.tab
  have h1 := P.yrs1
  have h2 := P.age0
  have h3 := T.len1
  unfold durP Bas.last
  split <;> omega
theorem rlN_cast {b : Bas} {p : Policy} (P : PolOk b p) : ((rlN b p : Nat) : Int) = durP b p ∧ 1 ≤ rlN b p ∧ rlN b p ≤ 120 := by
  have h1 := dur_pos P
  have h2 := dur_small P
  unfold rlN
  omega
theorem year_at {b : Bas} {p : Policy} {k : Nat} (P : PolOk b p) (hk : k < rlN b p) (hd : ¬ partD b p (k : Int) = 0) : YearOk b p (k : Int) := by
  have h1 := (rlN_cast P).1
  have h2 := d_bound P.toBasOk (p.age + (k : Int))
  exact { toPolOk := P, k0 := by omega, k1 := by omega, d1 := by unfold partD at hd; omega }
theorem rlAt_bound {b : Bas} {p : Policy} {k : Nat} (P : PolOk b p) (hk : k < rlN b p) : -1 ≤ rlAt b p k ∧ rlAt b p k ≤ 100000001 := by
  unfold rlAt
  split
  · omega
  · rename_i h
    have := res_bound (year_at P hk h)
    omega
theorem res_pol {b : Bas} {p : Policy} {k : Int} (h : resCode b p k = 0) : polB b p = true := by
  unfold resCode at h
  cases hp : polB b p
  · rw [hp] at h; simp at h
  · rfl
theorem code_at {b : Bas} {p : Policy} {k : Int} (h : polB b p = true) (hk : 0 ≤ k) (hk2 : k ≤ durP b p - 1) : resCode b p k = if partD b p k = 0 then 5 else 0 := by
  unfold resCode
  rw [if_pos h, if_pos (inR_mk ⟨hk, hk2⟩)]; rfl
/-- the first greatest one -/
def gdm (ys : List Int) (k : Nat) : Int := ys.getD k 0
def topIx (ys : List Int) : Nat → Nat
  | 0 => 0
  | k + 1 => if gdm ys (topIx ys k) < gdm ys k then k else topIx ys k
def greatP (b : Bas) (p : Policy) : Int × Int × Int :=
  if (rlP b p).2 = 0 then (gdm (rlTo b p (rlN b p)) (topIx (rlTo b p (rlN b p)) (rlN b p)), (topIx (rlTo b p (rlN b p)) (rlN b p) : Int), 0) else (0, 0, (rlP b p).2)
theorem top_lt {ys : List Int} {n : Nat} (h : 0 < n) : ∀ k, k ≤ n → topIx ys k < n
  | 0, _ => h
  | k + 1, hk => by
    have := top_lt (ys := ys) h k (by omega)
    unfold topIx
    split <;> omega
theorem gdm_get {ys : List Int} {k : Nat} {y : Int} (h : ys[k]? = some y) : gdm ys k = y := by simp [gdm, h]
theorem top_succ {ys : List Int} {k : Nat} {y z : Int} (hy : ys[k]? = some y) (hz : ys[topIx ys k]? = some z) : topIx ys (k + 1) = if z < y then k else topIx ys k := by
  show (if gdm ys (topIx ys k) < gdm ys k then k else topIx ys k) = _
  rw [gdm_get hy, gdm_get hz]
theorem top_max {ys : List Int} : ∀ k j, j < k → gdm ys j ≤ gdm ys (topIx ys k)
  | 0, j, h => by omega
  | k + 1, j, h => by
    by_cases hj : j = k
    · subst hj; unfold topIx; split <;> omega
    · have := top_max (ys := ys) k j (by omega)
      unfold topIx
      split <;> omega
theorem rl_good {b : Bas} {p : Policy} (h : (rlP b p).2 = 0) : polB b p = true ∧ rlP b p = (rlTo b p (rlN b p), 0) := by
  unfold rlP at h ⊢
  by_cases h1 : polB b p = true
  · rw [if_pos h1] at h ⊢
    by_cases h2 : wholeTo b p (rlN b p) = true
    · rw [if_pos h2] at h ⊢; exact ⟨h1, rfl⟩
    · rw [if_neg h2] at h; simp at h
  · rw [if_neg h1] at h; simp at h
def paidR (p : Policy) : Int := if p.kind = 3 then 0 else p.sum
def riskP (b : Bas) (p : Policy) (k : Int) : Int × Int :=
  if resCode b p k = 0 then (if k = durP b p - 1 then (if p.kind = 2 then 0 else paidR p, 0) else if partD b p (k + 1) = 0 then (0, 5) else (paidR p - resAt b p (k + 1), 0)) else (0, resCode b p k)
def denP (b : Bas) (p : Policy) (k : Int) : Int × Int := if resCode b p k = 0 then (partD b p k, 0) else (0, resCode b p k)
def fwdAt (b : Bas) (p : Policy) (k : Int) : Int × Int := fwdP p.sum (partT b p k) (netP b p) (partB b p k) (partD b p k)
def fwdRP (b : Bas) (p : Policy) (k : Int) : Int × Int × Int := if resCode b p k = 0 then ((fwdAt b p k).1, (fwdAt b p k).2, 0) else (0, 0, resCode b p k)

def leavCode (b : Bas) (p : Policy) (k : Int) : Int := if resCode b p k = 0 then (if k < 2 then 4 else 0) else resCode b p k
def valV (b : Bas) (p : Policy) (k : Int) : Int := resAt b p k * 900 / 1000
def surP (b : Bas) (p : Policy) (k : Int) : Int × Int := if leavCode b p k = 0 then (valV b p k, 0) else (0, leavCode b p k)
def lossP (b : Bas) (p : Policy) (k : Int) : Int × Int := if leavCode b p k = 0 then (resAt b p k - valV b p k, 0) else (0, leavCode b p k)
def loanP (b : Bas) (p : Policy) (k : Int) : Int × Int := if leavCode b p k = 0 then (valV b p k * 800 / 1000, 0) else (0, leavCode b p k)
def puQ (s v d t : Int) : Int := if t = 0 then 0 else min s (v * d / t)
def paidUpP (b : Bas) (p : Policy) (k : Int) : Int × Int := if leavCode b p k = 0 then (puQ p.sum (valV b p k) (partD b p k) (partT b p k), 0) else (0, leavCode b p k)
/-- the greatest number of years, up to m, whose price is at most v -/
def keptM (b : Bas) (p : Policy) (k v : Int) : Nat → Nat
  | 0 => 0
  | m + 1 => if priceP b 1 (p.age + k) ((m : Int) + 1) p.sum ≤ v then m + 1 else keptM b p k v m
def keptYP (b : Bas) (p : Policy) (k : Int) : Int × Int := if leavCode b p k = 0 then ((keptM b p k (valV b p k) (durP b p - k).toNat : Int), 0) else (0, leavCode b p k)
theorem keptM_le (b : Bas) (p : Policy) (k v : Int) : ∀ m, keptM b p k v m ≤ m
  | 0 => Nat.le_refl _
  | m + 1 => by
    have := keptM_le b p k v m
    unfold keptM
    split <;> omega
theorem keptM_price {b : Bas} {p : Policy} {k v : Int} : ∀ m, keptM b p k v m ≠ 0 → priceP b 1 (p.age + k) (keptM b p k v m : Int) p.sum ≤ v
  | 0, h => absurd rfl h
  | m + 1, h => by
    unfold keptM at h ⊢
    by_cases hp : priceP b 1 (p.age + k) ((m : Int) + 1) p.sum ≤ v
    · rw [if_pos hp] at h ⊢
      exact hp
    · rw [if_neg hp] at h ⊢
      exact keptM_price m h
def bestN (b : Bas) (p : Policy) (k : Nat) : Int := valV b p k - k * officeP b p
def bestAt (b : Bas) (p : Policy) : Nat → Nat × Int
  | 0 => (2, bestN b p 2)
  | m + 1 => if (bestAt b p m).2 < bestN b p (m + 3) then (m + 3, bestN b p (m + 3)) else bestAt b p m
def midB (b : Bas) (p : Policy) (k : Nat) : Bool := (List.range k).all fun j => decide (2 ≤ j → partD b p (j : Int) ≠ 0)
def bestP (b : Bas) (p : Policy) : Int × Int × Int :=
  if polB b p = true then (if durP b p ≤ 2 then (0, 0, 4) else if midB b p (rlN b p) = true then (((bestAt b p (rlN b p - 3)).1 : Int), (bestAt b p (rlN b p - 3)).2, 0) else (0, 0, 5)) else (0, 0, 1)
end Go.Proofs.Ytbjdbpdgacfcpaa
end
