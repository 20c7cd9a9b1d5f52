/- Parts of a proof, one after another: Age3, Lv1. No condition. -/
import Derived.Test.YtbjdbpdgacfcpaaK15
import Derived.Test.YtbjdbpdgacfcpaaK17
import Derived.Deep.RegionLaw
/- A portfolio grown older: the reference (printed by age.py). -/
section
namespace Go.Proofs.Ytbjdbpdgacfcpaa
open Go.RowKit Go.BigFrame

theorem year_last {b : Bas} {x : Holding}   : (x.year == durP b x.pol - 1) = (x.year + 1 == durP b x.pol) := by
  rw [Bool.eq_iff_iff]; simp only [beq_iff_eq]; omega
def Holding.less (x : Holding) (y : Int) : Holding := { x with count := x.count - y }
theorem age_box2 (w : World) (x : Holding) (y : Int) : Below w.heap.size w (w.alloc (.cells #[.int .i64 x.kind, .int .i64 x.age, .int .i64 x.years, .int .i64 x.sum, .int .i64 x.load, .int .i64 x.year, .int .i64 (x.count - y)] 37)).drew ∧ Blk (w.alloc (.cells #[.int .i64 x.kind, .int .i64 x.age, .int .i64 x.years, .int .i64 x.sum, .int .i64 x.load, .int .i64 x.year, .int .i64 (x.count - y)] 37)).drew w.heap.size 37 #[.int .i64 x.kind, .int .i64 x.age, .int .i64 x.years, .int .i64 x.sum, .int .i64 x.load, .int .i64 x.year, .int .i64 (x.count - y)] :=
  ⟨((Below.refl _ w).alloc (Nat.le_refl _) _).drew, (Blk.new w _ _).drew⟩
set_option maxRecDepth 20000 in
set_option maxHeartbeats 8000000 in
theorem spec_AgePortfolio_any (b : Bas) (A : Option Addr) (n cap : Nat) (H : Option Addr) (m hcap : Nat) (xs : List Holding) (Y : Option Addr) (my ycap : Nat) (ys : List Int) (w : World) (hB : BasT w A n cap b) (hl : xs.length = m) (hm : m ≤ 1048576) (hX : Rd w w.heap.size H 7 (holdingRows xs)) (hf : ∀ x ∈ xs, x.fits) (hl2 : ys.length = my) (_hm2 : my ≤ 1048576) (hY : Rd w w.heap.size Y 1 (intRows ys)) (hfy : ∀ y ∈ ys, In64 y) :
    Calls Try.prog 50 #[.agg #[.int .i64 b.first, .slice A n cap, .int .i64 b.rate], .slice H m hcap, .slice Y my ycap] w fun e w' => ∃ A' n' c', e = .returned (.tuple #[.slice A' n' c', .int .i64 (ageP b xs ys).2]) ∧ Res w.heap.size w' 37 7 A' n' c' (holdingRows (ageP b xs ys).1) ∧ Below w.heap.size w w' := by
  have HF := Lib.hid hf; clear hf
  have HFY := Lib.hid hfy; clear hfy
  have HL := Lib.hid hl; clear hl
  have HL2 := Lib.hid hl2; clear hl2
  have HB := Lib.hid (Below.refl w.heap.size w)
  have HH := Lib.hid (((Held.nil w).cons hX).cons hY); clear hX hY
  have HT := Lib.hid hB; clear hB
  obtain ⟨hb, hr0⟩ := box1 (w := w) (tx := 28) (X := [.int .i64 b.first, .slice A n cap, .int .i64 b.rate])
  replace HB := Lib.hid (below_all HB.out hb)
  replace HT := Lib.hid (HT.out.past hb)
  replace HH := Lib.hid ((HH.out.past hb).cons hr0)
  clear hb hr0
  cases hp : portB b xs
  · skip
    have hdc : deathCode b xs ys = 1 := by unfold deathCode; rw [if_neg (by rw [hp]; simp)]
    have Q := Lib.hid (show ageP b xs ys = ([], 1) by unfold ageP; rw [hdc]; rfl)
    clear hdc
    go_enter Try.func50, Try.ntmps50
    have HL_bx := Lib.hid (Rd.box (HH.out.get 0 rfl))
    go_wp2_with (refine wpList_load_agg rfl 28 _ rfl ⟨w.heap.size, 0, none⟩ rfl [.int .i64 b.first, .slice A n cap, .int .i64 b.rate] HL_bx.out _ Try.underlying28 rfl Bas.size ?_)
    clear HL_bx
    generalize (w.alloc (.cells #[.int .i64 b.first, .slice A n cap, .int .i64 b.rate] 28)) = v0 at HB HH HT ⊢
    generalize w.heap.size = g0_0 at HH ⊢
    refine (spec_IsPortfolio_any b A n cap H m hcap xs _ HT.out HL.out hm (HH.out.get 2 rfl) HF.out).mono ?_
    rw [hp]
    rintro e w1 ⟨rfl, hb⟩
    replace HB := Lib.hid (below_all HB.out hb)
    replace HT := Lib.hid (HT.out.past hb)
    replace HH := Lib.hid (HH.out.past hb)
    clear hb
    go_wp2
    go_ret2
    exact ⟨none, 0, 0, by rw [Q.out]; rfl, by rw [Q.out]; exact Res.nil_, HB.out⟩
  · skip
    by_cases hlen : my = m
    · skip
      have HDC := Lib.hid (show deathCode b xs ys = if deadB xs ys = true then 0 else 2 by unfold deathCode; rw [if_pos hp, if_pos (by rw [HL.out, HL2.out, hlen])])
      have HLM := Lib.hid hlen
      have heq : ((my : Int) == (m : Int)) = true := by simp [hlen]
      have hm30 : m ≤ 30 := by have := (port_hold hp).1; rw [HL.out] at this; exact this
      have HHO := Lib.hid (port_hold hp).2
      obtain ⟨i0, hi0, hz0, hz1, hz2⟩ := Holding.parts7
      have HI := Lib.hid (And.intro hi0 (And.intro hz0 (And.intro hz1 hz2))); clear hi0 hz0 hz1 hz2 hlen
      go_enter Try.func50, Try.ntmps50
      have HL_bx := Lib.hid (Rd.box (HH.out.get 0 rfl))
      go_wp2_with (refine wpList_load_agg rfl 28 _ rfl ⟨w.heap.size, 0, none⟩ rfl [.int .i64 b.first, .slice A n cap, .int .i64 b.rate] HL_bx.out _ Try.underlying28 rfl Bas.size ?_)
      clear HL_bx
      generalize (w.alloc (.cells #[.int .i64 b.first, .slice A n cap, .int .i64 b.rate] 28)) = v0 at HB HH HT ⊢
      generalize w.heap.size = g0_0 at HH ⊢
      refine (spec_IsPortfolio_any b A n cap H m hcap xs _ HT.out HL.out hm (HH.out.get 2 rfl) HF.out).mono ?_
      rw [hp]
      rintro e w1 ⟨rfl, hb⟩
      replace HB := Lib.hid (below_all HB.out hb)
      replace HT := Lib.hid (HT.out.past hb)
      replace HH := Lib.hid (HH.out.past hb)
      clear hb
      clear hp
      have HL2m := Lib.hid (HL2.out.trans HLM.out)
      have HH1 := HH
      have HT1 := HT
      have HB1 := HB
      go_wp2
      go_loopw [8, 9] (fun n i wr => ∃ (k : Nat) (c : Bool), k ≤ m ∧ i = .int .i64 k ∧ n = .bool c ∧ Hid (((xs.zip ys).take k).all (fun p => inR p.2 0 p.1.count) = c) ∧ Below w1.heap.size w1 wr) (fun _ i _ => m - (intOf i).toNat)
      case atStart => exact ⟨0, true, by omega, rfl, rfl, Lib.hid rfl, Below.refl _ _⟩
      case round =>
        clear HB HH HT
        obtain ⟨k, c, hk, rfl, rfl, HAL, hb⟩ := hrel
        have HW := Lib.hid hb
        have HH := Lib.hid (HH1.out.past hb)
        have HT := Lib.hid (HT1.out.past hb)
        have HB := Lib.hid (HB1.out.trans (hb.mono HB1.out.size))
        clear hb
        have hzl : (xs.zip ys).length = m := by rw [List.length_zip, HL.out, HL2m.out]; omega
        have HZL := Lib.hid hzl; clear hzl
        cases c
        · skip
          have hdd : deadB xs ys = false := by
            cases h : deadB xs ys
            · rfl
            · have h2 : ((xs.zip ys).take k).all (fun p => inR p.2 0 p.1.count) = true := List.all_eq_true.2 fun p hp => List.all_eq_true.1 h p (List.mem_of_mem_take hp)
              rw [HAL.out] at h2; cases h2
          have hdc : deathCode b xs ys = 2 := by rw [HDC.out, hdd]; rfl
          have Q := Lib.hid (show ageP b xs ys = ([], 2) by unfold ageP; rw [hdc]; rfl)
          clear hdd hdc
          go_wp2
          go_ret2
          exact ⟨none, 0, 0, by rw [Q.out]; rfl, by rw [Q.out]; exact Res.nil_, HB.out⟩
        · skip
          by_cases hlt : k < m
          · skip
            obtain ⟨x, hx⟩ := get_of_lt (xs := xs) (k := k) (by rw [HL.out]; exact hlt)
            obtain ⟨y, hy⟩ := get_of_lt (xs := ys) (k := k) (by rw [HL2m.out]; exact hlt)
            obtain ⟨ad, rfl, had, _, hc⟩ := ((HH.out.get 2 rfl)).at' (holdingRows_get hx)
            obtain ⟨ay, rfl, hay, hcy⟩ := ((HH.out.get 1 rfl)).int_at hy
            have HZ := Lib.hid (pair_get hx hy)
            have Hc := Lib.hid hc; clear hc
            have HCY := Lib.hid hcy; clear hcy
            have HYA := Lib.hid hay; clear hay
            have hyi := HFY.out y (List.mem_of_getElem? hy)
            have hxi := HF.out x (List.mem_of_getElem? hx)
            have hki : (k : Int) < (m : Int) := by omega
            have hk63 : (k : Int) < 1048576 := by omega
            have hkm : (k : Int) < (my : Int) := by have := HLM.out; omega
            have c6 := (Holding.cells Hc.out).2.2.2.2.2.2
            have d6 := fun u : Past wr => Past.cell c6 u
            have dy := fun u : Past wr => Past.cell HCY.out u
            clear c6 hx hy
            cases hin : inR y 0 x.count
            · skip
              have HIN := Lib.hid hin; clear hin
              go_wp2
              refine wp_region_past (by kernel_rfl) (by kernel_rfl) ?_
              repeat (go_big_quiet_step ((go_at_call 102; exact past_same ((spec_l01In_any y 0 x.count _).mono (by rw [HIN.out]; exact fun _ _ h => h)))))
              refine wpQuiet_nil ?_
              rintro _ ⟨u, rfl⟩
              have hb := u.2
              replace HW := Lib.hid (HW.out.trans (hb.mono HW.out.size))
              replace HB := Lib.hid (below_all HB.out hb)
              replace HT := Lib.hid (HT.out.past hb)
              replace HH := Lib.hid (HH.out.past hb)
              clear hb
              go_wp2
              go_roundw
              case rel => exact ⟨k + 1, false, by omega, by go_num, rfl, Lib.hid (by rw [take_succ_snoc HZ.out, List.all_append, HAL.out]; simp [HIN.out]), HW.out⟩
              case measure => simp [intOf]; omega
            · skip
              have HIN := Lib.hid hin; clear hin
              go_wp2
              refine wp_region_past (by kernel_rfl) (by kernel_rfl) ?_
              repeat (go_big_quiet_step ((go_at_call 102; exact past_same ((spec_l01In_any y 0 x.count _).mono (by rw [HIN.out]; exact fun _ _ h => h)))))
              refine wpQuiet_nil ?_
              rintro _ ⟨u, rfl⟩
              have hb := u.2
              replace HW := Lib.hid (HW.out.trans (hb.mono HW.out.size))
              replace HB := Lib.hid (below_all HB.out hb)
              replace HT := Lib.hid (HT.out.past hb)
              replace HH := Lib.hid (HH.out.past hb)
              clear hb
              go_wp2
              go_roundw
              case rel => exact ⟨k + 1, true, by omega, by go_num, rfl, Lib.hid (all_succ HAL.out HZ.out HIN.out), HW.out⟩
              case measure => simp [intOf]; omega
          · skip
            have hkm : k = m := by omega
            have hdead : deadB xs ys = true := all_end HZL.out (by have h := HAL.out; rw [hkm] at h; exact h)
            have hd : deathCode b xs ys = 0 := by rw [HDC.out, hdead]; rfl
            have HDD := Lib.hid hdead
            have QA := Lib.hid (show ageP b xs ys = if (xs.zip ys).any (fun p => stuckB b p.1 p.2) = true then ([], 5) else (olderL b (xs.zip ys), 0) from if_pos hd)
            clear hdead hd
            subst hkm
            have HH2 := HH
            have HT2 := HT
            have HB2 := HB
            have HR0 := Lib.hid (Res.zero wr wr.heap.size 37 7 (Nat.le_refl _))
            clear HW HH1 HT1 HB1 HAL
            go_wp2
            go_loopw [10, 11] (fun o i wq => ∃ (q : Nat) (O : Option Addr) (oq oc : Nat), q ≤ k ∧ i = .int .i64 q ∧ o = .slice O oq oc ∧ Hid (((xs.zip ys).take q).any (fun p => stuckB b p.1 p.2) = false) ∧ Hid (Res wr.heap.size wq 37 7 O oq oc (holdingRows (olderL b ((xs.zip ys).take q)))) ∧ Below wr.heap.size wr wq) (fun _ i _ => k - (intOf i).toNat)
            case atStart => exact ⟨0, _, _, _, by omega, rfl, rfl, Lib.hid rfl, HR0, (Below.refl _ _).alloc (Nat.le_refl _) _⟩
            case round =>
              clear HB HH HT HR0
              obtain ⟨q, O, oq, oc, hk, rfl, rfl, HNS, HR, hb⟩ := hrel
              rename World => w8
              have HW := Lib.hid hb
              have HH := Lib.hid (HH2.out.past hb)
              have HT := Lib.hid (HT2.out.past hb)
              have HB := Lib.hid (HB2.out.trans (hb.mono HB2.out.size))
              clear hb
              by_cases hlt : q < k
              · skip
                obtain ⟨x, hx⟩ := get_of_lt (xs := xs) (k := q) (by rw [HL.out]; exact hlt)
                obtain ⟨y, hy⟩ := get_of_lt (xs := ys) (k := q) (by rw [HL2m.out]; exact hlt)
                obtain ⟨ad, rfl, had, _, hc⟩ := ((HH.out.get 2 rfl)).at' (holdingRows_get hx)
                obtain ⟨ay, rfl, hay, hcy⟩ := ((HH.out.get 1 rfl)).int_at hy
                have HZ := Lib.hid (pair_get hx hy)
                have Hc := Lib.hid hc; clear hc
                have HCY := Lib.hid hcy; clear hcy
                have HYA := Lib.hid hay; clear hay
                have hyi := HFY.out y (List.mem_of_getElem? hy)
                have hxi := HF.out x (List.mem_of_getElem? hx)
                have hki : (q : Int) < (k : Int) := by omega
                have hk63 : (q : Int) < 1048576 := by omega
                have Hx := Lib.hid (HHO.out x (List.mem_of_getElem? hx))
                have HYD := Lib.hid (dead_get HDD.out hx hy)
                obtain ⟨y0, y1⟩ := HYD.out
                obtain ⟨⟨c0, c1⟩, HYO⟩ := hold_ok Hx.out
                have HPO := Lib.hid HYO.toPolOk
                have hd1 := dur_low HPO.out
                have hd2 := dur_bound HPO.out
                have k0 : 0 ≤ x.year := HYO.k0
                have k1 : x.year ≤ durP b x.pol - 1 := HYO.k1
                have a1 : x.age ≤ 150 := HPO.out.age1
                have a0 : b.first ≤ x.age := HPO.out.age0
                have t0 := HPO.out.tab.first0
                have t1 := HPO.out.tab.first1
                have holn : oq ≤ 30 := by have := HR.out.len; rw [holdingRows_length] at this; have h2 := olderL_length b ((xs.zip ys).take q); rw [List.length_take, List.length_zip] at h2; omega
                clear HYO hx hy hxi hyi
                have hkm : (q : Int) < (my : Int) := by have := HLM.out; omega
                have HCN := Lib.hid (show (w8.alloc (.cells #[.int .i64 x.kind, .int .i64 x.age, .int .i64 x.years, .int .i64 x.sum, .int .i64 x.load, .int .i64 x.year, .int .i64 x.count] 37)).cell? (ay.add q) = some (.int .i64 y) from (((Below.refl w8.heap.size w8).alloc (Nat.le_refl _) (.cells #[.int .i64 x.kind, .int .i64 x.age, .int .i64 x.years, .int .i64 x.sum, .int .i64 x.load, .int .i64 x.year, .int .i64 x.count] 37)).cell (p := ay.add q) (by rw [block_of_add]; exact HYA.out)).trans HCY.out)
                have hcn := HCN.out
                obtain ⟨hb, hk9⟩ := age_box2 w8 x y
                have HH3 := HH
                have HT3 := HT
                have HB3 := HB
                have HR3 := HR
                have HW3 := HW
                have HBw := Lib.hid hb
                have HBk := Lib.hid hk9
                replace HW := Lib.hid (HW.out.trans (hb.mono HW.out.size))
                replace HR := Lib.hid (HR.out.past hb)
                replace HB := Lib.hid (below_all HB.out hb)
                replace HT := Lib.hid (HT.out.past hb)
                replace HH := Lib.hid (HH.out.past hb)
                clear hb hk9
                go_upto_region 15 with (refine wpList_load_agg rfl 37 _ rfl (ad.add (q * 7)) rfl [.int .i64 x.kind, .int .i64 x.age, .int .i64 x.years, .int .i64 x.sum, .int .i64 x.load, .int .i64 x.year, .int .i64 x.count] Hc.out _ Try.underlying37 rfl Holding.size ?_)
                go_region
                generalize (w8.alloc (.cells #[.int .i64 x.kind, .int .i64 x.age, .int .i64 x.years, .int .i64 x.sum, .int .i64 x.load, .int .i64 x.year, .int .i64 (x.count - y)] 37)).drew = v9 at HB HH HT HW HR HBw HBk ⊢
                clear hcn HCN
                cases hc0 : (x.count - y == 0)
                · skip
                  have hz0 : (x.count - y == 0) = false := hc0
                  have k0 : v9.cell? ⟨w8.heap.size, 0, none⟩ = some (.int .i64 x.kind) := HBk.out.cell 0
                  have k1 : v9.cell? ⟨w8.heap.size, 1, none⟩ = some (.int .i64 x.age) := HBk.out.cell 1
                  have k2 : v9.cell? ⟨w8.heap.size, 2, none⟩ = some (.int .i64 x.years) := HBk.out.cell 2
                  have k3 : v9.cell? ⟨w8.heap.size, 3, none⟩ = some (.int .i64 x.sum) := HBk.out.cell 3
                  have k4 : v9.cell? ⟨w8.heap.size, 4, none⟩ = some (.int .i64 x.load) := HBk.out.cell 4
                  have k5 : v9.cell? ⟨w8.heap.size, 5, none⟩ = some (.int .i64 x.year) := HBk.out.cell 5
                  have k6 : v9.cell? ⟨w8.heap.size, 6, none⟩ = some (.int .i64 (x.count - y)) := HBk.out.cell 6
                  have HL_k := Lib.hid (Rd.box (Blk.rd (r := [.int .i64 x.kind, .int .i64 x.age, .int .i64 x.years, .int .i64 x.sum, .int .i64 x.load, .int .i64 x.year, .int .i64 (x.count - y)]) HBk.out))
                  cases hy0 : (x.year + 1 == durP b x.pol)
                  · skip
                    have HG := Lib.hid (show goneB b x y = false by unfold goneB; rw [hc0, hy0]; rfl)
                    clear hc0
                    have p0 : v9.cell? ⟨g0_0, 0, none⟩ = some (.int .i64 b.first) := Rd.bcell (HH.out.get 0 rfl) 0 rfl
                    have p1 : v9.cell? ⟨g0_0, 1, none⟩ = some (.slice A n cap) := Rd.bcell (HH.out.get 0 rfl) 1 rfl
                    have p2 : v9.cell? ⟨g0_0, 2, none⟩ = some (.int .i64 b.rate) := Rd.bcell (HH.out.get 0 rfl) 2 rfl
                    go_wp2_with fail
                    clear HL_k
                    clear k0 k1 k2 k3 k4 k5 k6
                    clear p0 p1 p2
                    refine (spec_l17Last_at b A n cap (x.less y) _ HT.out HPO.out).mono ?_
                    rw [show ((x.less y).year == durP b (x.less y).pol - 1) = (x.year == durP b x.pol - 1) from rfl, year_last, hy0]
                    rintro e w2 ⟨rfl, hb⟩
                    replace HW := Lib.hid (HW.out.trans (hb.mono HW.out.size))
                    replace HR := Lib.hid (HR.out.past hb)
                    replace HBw := Lib.hid (HBw.out.trans (hb.mono HBw.out.size))
                    replace HBk := Lib.hid (HBk.out.below' hb)
                    replace HB := Lib.hid (below_all HB.out hb)
                    replace HT := Lib.hid (HT.out.past hb)
                    replace HH := Lib.hid (HH.out.past hb)
                    clear hb
                    have k0 : w2.cell? ⟨w8.heap.size, 0, none⟩ = some (.int .i64 x.kind) := HBk.out.cell 0
                    have k1 : w2.cell? ⟨w8.heap.size, 1, none⟩ = some (.int .i64 x.age) := HBk.out.cell 1
                    have k2 : w2.cell? ⟨w8.heap.size, 2, none⟩ = some (.int .i64 x.years) := HBk.out.cell 2
                    have k3 : w2.cell? ⟨w8.heap.size, 3, none⟩ = some (.int .i64 x.sum) := HBk.out.cell 3
                    have k4 : w2.cell? ⟨w8.heap.size, 4, none⟩ = some (.int .i64 x.load) := HBk.out.cell 4
                    have k5 : w2.cell? ⟨w8.heap.size, 5, none⟩ = some (.int .i64 x.year) := HBk.out.cell 5
                    have k6 : w2.cell? ⟨w8.heap.size, 6, none⟩ = some (.int .i64 (x.count - y)) := HBk.out.cell 6
                    have kf5 : w2.frozen? ⟨w8.heap.size, 5, none⟩ = false := HBk.out.frozen 5
                    go_upto_region 18 with fail
                    have hb : Below w8.heap.size w8 (w2.setCell ⟨w8.heap.size, 5, none⟩ (.int .i64 (x.year + 1))) := HBw.out.setCell (p := ⟨w8.heap.size, 5, none⟩) (Nat.le_refl _) _
                    replace HBk := Lib.hid (show Blk (w2.setCell ⟨w8.heap.size, 5, none⟩ (.int .i64 (x.year + 1))) w8.heap.size 37 #[.int .i64 x.kind, .int .i64 x.age, .int .i64 x.years, .int .i64 x.sum, .int .i64 x.load, .int .i64 (x.year + 1), .int .i64 (x.count - y)] by simpa using HBk.out.set_ 5 (.int .i64 (x.year + 1)))
                    replace HH := Lib.hid (HH3.out.past hb)
                    replace HT := Lib.hid (HT3.out.past hb)
                    replace HB := Lib.hid (below_all HB3.out hb)
                    replace HR := Lib.hid (HR3.out.past hb)
                    replace HW := Lib.hid (HW3.out.trans (hb.mono HW3.out.size))
                    replace HBw := Lib.hid hb
                    clear hb kf5
                    clear k0 k1 k2 k3 k4 k5 k6
                    generalize (w2.setCell ⟨w8.heap.size, 5, none⟩ (.int .i64 (x.year + 1))) = v8 at HB HH HT HW HR HBw HBk ⊢
                    have k0 : v8.cell? ⟨w8.heap.size, 0, none⟩ = some (.int .i64 x.kind) := HBk.out.cell 0
                    have k1 : v8.cell? ⟨w8.heap.size, 1, none⟩ = some (.int .i64 x.age) := HBk.out.cell 1
                    have k2 : v8.cell? ⟨w8.heap.size, 2, none⟩ = some (.int .i64 x.years) := HBk.out.cell 2
                    have k3 : v8.cell? ⟨w8.heap.size, 3, none⟩ = some (.int .i64 x.sum) := HBk.out.cell 3
                    have k4 : v8.cell? ⟨w8.heap.size, 4, none⟩ = some (.int .i64 x.load) := HBk.out.cell 4
                    have k5 : v8.cell? ⟨w8.heap.size, 5, none⟩ = some (.int .i64 (x.year + 1)) := HBk.out.cell 5
                    have k6 : v8.cell? ⟨w8.heap.size, 6, none⟩ = some (.int .i64 (x.count - y)) := HBk.out.cell 6
                    have p0 : v8.cell? ⟨g0_0, 0, none⟩ = some (.int .i64 b.first) := Rd.bcell (HH.out.get 0 rfl) 0 rfl
                    have p1 : v8.cell? ⟨g0_0, 1, none⟩ = some (.slice A n cap) := Rd.bcell (HH.out.get 0 rfl) 1 rfl
                    have p2 : v8.cell? ⟨g0_0, 2, none⟩ = some (.int .i64 b.rate) := Rd.bcell (HH.out.get 0 rfl) 2 rfl
                    have HL_tx := Lib.hid (Rd.boxT (HH.out.get 0 rfl))
                    go_wp2_with (refine wpList_load_agg rfl 26 _ rfl ⟨g0_0, 0, none⟩ rfl [.int .i64 b.first, .slice A n cap] HL_tx.out _ Try.underlying26 rfl Tab.size ?_)
                    clear HL_tx
                    clear p0 p1 p2
                    clear k0 k1 k2 k3 k4 k5 k6
                    refine (spec_l05D_at b A n cap (x.age + (x.year + 1)) _ HT.out HPO.out.toBasOk ⟨by omega, by omega⟩).mono ?_
                    rintro e w3 ⟨rfl, hb⟩
                    replace HW := Lib.hid (HW.out.trans (hb.mono HW.out.size))
                    replace HR := Lib.hid (HR.out.past hb)
                    replace HBw := Lib.hid (HBw.out.trans (hb.mono HBw.out.size))
                    replace HBk := Lib.hid (HBk.out.below' hb)
                    replace HB := Lib.hid (below_all HB.out hb)
                    replace HT := Lib.hid (HT.out.past hb)
                    replace HH := Lib.hid (HH.out.past hb)
                    clear hb
                    cases hpd : (b.d (x.age + (x.year + 1)) == 0)
                    · skip
                      have HST := Lib.hid (show stuckB b x y = false by unfold stuckB; rw [hpd]; simp)
                      have hs5 : wr.heap.size ≤ w3.heap.size := HW.out.size
                      have HL_k := Lib.hid (Rd.box (Blk.rd (r := [.int .i64 x.kind, .int .i64 x.age, .int .i64 x.years, .int .i64 x.sum, .int .i64 x.load, .int .i64 (x.year + 1), .int .i64 (x.count - y)]) HBk.out))
                      go_wp2_with (first | (refine wpList_load_agg rfl 37 _ rfl ⟨w8.heap.size, 0, none⟩ rfl [.int .i64 x.kind, .int .i64 x.age, .int .i64 x.years, .int .i64 x.sum, .int .i64 x.load, .int .i64 (x.year + 1), .int .i64 (x.count - y)] HL_k.out _ Try.underlying37 rfl Holding.size ?_) | (at_builtin; refine wpList_append_row w3 rfl (.tmp 86) (.tmp 88) 29 rfl wr.heap.size 37 i0 _ 7 56 Try.underlying29 HI.out.1 HI.out.2.1 HI.out.2.2.1 HI.out.2.2.2 rfl (by decide) (by decide) O oq oc _ rfl HR.out [.int .i64 x.kind, .int .i64 x.age, .int .i64 x.years, .int .i64 x.sum, .int .i64 x.load, .int .i64 (x.year + 1), .int .i64 (x.count - y)] _ rfl rfl (by simp [Value.oneCell']) (by omega) hs5 ?_))
                      intro B2 c2 w5 hR5 hb5
                      have HR5 := Lib.hid hR5; clear hR5
                      have HW5 := Lib.hid (HW.out.trans hb5); clear hb5
                      go_wp2
                      go_roundw
                      case rel => exact ⟨q + 1, B2, oq + 1, c2, by omega, by go_num, rfl, Lib.hid (any_succ HNS.out HZ.out HST.out), Lib.hid (by rw [olderL_keep HZ.out HG.out, holdingRows_snoc, older_row]; exact HR5.out), HW5.out⟩
                      case measure => simp [intOf]; omega
                    · skip
                      have Q := Lib.hid (show ageP b xs ys = ([], 5) by rw [QA.out, if_pos (any_stop HZ.out (show stuckB b x y = true by unfold stuckB; rw [HG.out, hpd]; rfl))])
                      go_wp2
                      go_ret2
                      exact ⟨none, 0, 0, by rw [Q.out]; rfl, by rw [Q.out]; exact Res.nil_, HB.out⟩
                  · skip
                    have HG := Lib.hid (show goneB b x y = true by unfold goneB; rw [hc0, hy0]; simp)
                    have HST := Lib.hid (show stuckB b x y = false by unfold stuckB; rw [HG.out]; rfl)
                    clear hc0
                    have p0 : v9.cell? ⟨g0_0, 0, none⟩ = some (.int .i64 b.first) := Rd.bcell (HH.out.get 0 rfl) 0 rfl
                    have p1 : v9.cell? ⟨g0_0, 1, none⟩ = some (.slice A n cap) := Rd.bcell (HH.out.get 0 rfl) 1 rfl
                    have p2 : v9.cell? ⟨g0_0, 2, none⟩ = some (.int .i64 b.rate) := Rd.bcell (HH.out.get 0 rfl) 2 rfl
                    go_wp2_with fail
                    clear HL_k
                    clear k0 k1 k2 k3 k4 k5 k6
                    clear p0 p1 p2
                    refine (spec_l17Last_at b A n cap (x.less y) _ HT.out HPO.out).mono ?_
                    rw [show ((x.less y).year == durP b (x.less y).pol - 1) = (x.year == durP b x.pol - 1) from rfl, year_last, hy0]
                    rintro e w2 ⟨rfl, hb⟩
                    replace HW := Lib.hid (HW.out.trans (hb.mono HW.out.size))
                    replace HR := Lib.hid (HR.out.past hb)
                    replace HBw := Lib.hid (HBw.out.trans (hb.mono HBw.out.size))
                    replace HBk := Lib.hid (HBk.out.below' hb)
                    replace HB := Lib.hid (below_all HB.out hb)
                    replace HT := Lib.hid (HT.out.past hb)
                    replace HH := Lib.hid (HH.out.past hb)
                    clear hb
                    go_wp2
                    go_roundw
                    case rel => exact ⟨q + 1, O, oq, oc, by omega, by go_num, rfl, Lib.hid (any_succ HNS.out HZ.out HST.out), Lib.hid (by rw [olderL_skip HZ.out HG.out]; exact HR.out), HW.out⟩
                    case measure => simp [intOf]; omega
                · skip
                  have HG := Lib.hid (show goneB b x y = true by unfold goneB; rw [hc0]; simp)
                  have HST := Lib.hid (show stuckB b x y = false by unfold stuckB; rw [HG.out]; rfl)
                  have hz0 : (x.count - y == 0) = true := hc0
                  clear hc0
                  have k0 : v9.cell? ⟨w8.heap.size, 0, none⟩ = some (.int .i64 x.kind) := HBk.out.cell 0
                  have k1 : v9.cell? ⟨w8.heap.size, 1, none⟩ = some (.int .i64 x.age) := HBk.out.cell 1
                  have k2 : v9.cell? ⟨w8.heap.size, 2, none⟩ = some (.int .i64 x.years) := HBk.out.cell 2
                  have k3 : v9.cell? ⟨w8.heap.size, 3, none⟩ = some (.int .i64 x.sum) := HBk.out.cell 3
                  have k4 : v9.cell? ⟨w8.heap.size, 4, none⟩ = some (.int .i64 x.load) := HBk.out.cell 4
                  have k5 : v9.cell? ⟨w8.heap.size, 5, none⟩ = some (.int .i64 x.year) := HBk.out.cell 5
                  have k6 : v9.cell? ⟨w8.heap.size, 6, none⟩ = some (.int .i64 (x.count - y)) := HBk.out.cell 6
                  go_wp2
                  go_roundw
                  case rel => exact ⟨q + 1, O, oq, oc, by omega, by go_num, rfl, Lib.hid (any_succ HNS.out HZ.out HST.out), Lib.hid (by rw [olderL_skip HZ.out HG.out]; exact HR.out), HW.out⟩
                  case measure => simp [intOf]; omega
              · have hkn : q = k := by omega
                have hzl := HZL.out
                have Q := Lib.hid (show ageP b xs ys = (olderL b (xs.zip ys), 0) by
                  rw [QA.out, show (xs.zip ys).any (fun p => stuckB b p.1 p.2) = false from any_end hzl (by have h := HNS.out; rw [hkn] at h; exact h)]; rfl)
                have HR9 := Lib.hid (show Res wr.heap.size w8 37 7 O oq oc (holdingRows (ageP b xs ys).1) by
                  rw [Q.out]; have h := HR.out; rw [hkn, take_all hzl] at h; exact h)
                subst hkn
                go_wp2
                go_ret2
                exact ⟨O, oq, oc, by rw [Q.out]; rfl, HR9.out.more (by have := HB2.out.size; exact this), HB.out⟩
    · skip
      have hdc : deathCode b xs ys = 2 := by unfold deathCode; rw [if_pos hp, if_neg (fun h => hlen (by rw [HL.out, HL2.out] at h; exact h))]
      have Q := Lib.hid (show ageP b xs ys = ([], 2) by unfold ageP; rw [hdc]; rfl)
      have hne : ((my : Int) == (m : Int)) = false := by simp; omega
      clear hdc hlen
      go_enter Try.func50, Try.ntmps50
      have HL_bx := Lib.hid (Rd.box (HH.out.get 0 rfl))
      go_wp2_with (refine wpList_load_agg rfl 28 _ rfl ⟨w.heap.size, 0, none⟩ rfl [.int .i64 b.first, .slice A n cap, .int .i64 b.rate] HL_bx.out _ Try.underlying28 rfl Bas.size ?_)
      clear HL_bx
      generalize (w.alloc (.cells #[.int .i64 b.first, .slice A n cap, .int .i64 b.rate] 28)) = v0 at HB HH HT ⊢
      generalize w.heap.size = g0_0 at HH ⊢
      refine (spec_IsPortfolio_any b A n cap H m hcap xs _ HT.out HL.out hm (HH.out.get 2 rfl) HF.out).mono ?_
      rw [hp]
      rintro e w1 ⟨rfl, hb⟩
      replace HB := Lib.hid (below_all HB.out hb)
      replace HT := Lib.hid (HT.out.past hb)
      replace HH := Lib.hid (HH.out.past hb)
      clear hb
      go_wp2
      go_loopw [8, 9] (fun n i wr => n = .bool false ∧ i = .int .i64 0 ∧ wr = w1) (fun _ _ _ => 0)
      case atStart => exact ⟨rfl, rfl, rfl⟩
      case round =>
        obtain ⟨rfl, rfl, rfl⟩ := hrel
        go_wp2
        go_ret2
        exact ⟨none, 0, 0, by rw [Q.out]; rfl, by rw [Q.out]; exact Res.nil_, HB.out⟩
end Go.Proofs.Ytbjdbpdgacfcpaa
end

/- What leaving gives: the common check (printed by lv.py). -/
section
namespace Go.Proofs.Ytbjdbpdgacfcpaa
open Go.RowKit Go.BigFrame

theorem Leaving.size : (Try.prog.info? 95).map (·.size) = some 5 := by kernel_rfl
theorem impl_perMille_any (a r : Int) (h : 0 ≤ a * r ∧ a * r ≤ 200000000000) (w : World) :
    Calls Try.prog 93 #[.int .i64 a, .int .i64 r] w fun e w' => e = .returned (.int .i64 (a * r / 1000)) ∧ w = w' := by
  obtain ⟨h1, h2⟩ := h
  go_enter Try.func93, Try.ntmps93
  go_wp2_with (first | (go_at_call 132; refine (impl_down_any _ _ _ (by omega) (by omega) (by omega) (by omega)).mono ?_; rintro e w' ⟨rfl, rfl⟩))
  go_ret
  exact ⟨rfl, rfl⟩
theorem box3 {w : World} {tx ty tz : TypeId} {X Y Z : List Value} : Below w.heap.size w (((w.alloc (.cells X.toArray tx)).alloc (.cells Y.toArray ty)).alloc (.cells Z.toArray tz)) ∧ Rd (((w.alloc (.cells X.toArray tx)).alloc (.cells Y.toArray ty)).alloc (.cells Z.toArray tz)) (((w.alloc (.cells X.toArray tx)).alloc (.cells Y.toArray ty)).alloc (.cells Z.toArray tz)).heap.size (some ⟨w.heap.size, 0, none⟩) X.length [X] ∧
    Rd (((w.alloc (.cells X.toArray tx)).alloc (.cells Y.toArray ty)).alloc (.cells Z.toArray tz)) (((w.alloc (.cells X.toArray tx)).alloc (.cells Y.toArray ty)).alloc (.cells Z.toArray tz)).heap.size (some ⟨w.heap.size + 1, 0, none⟩) Y.length [Y] ∧ Blk (((w.alloc (.cells X.toArray tx)).alloc (.cells Y.toArray ty)).alloc (.cells Z.toArray tz)) (w.heap.size + 2) tz Z.toArray := by
  obtain ⟨h1, h2, h3⟩ := box2 (w := w) (tx := tx) (ty := ty) (X := X) (Y := Y)
  have h4 := Blk.new ((w.alloc (.cells X.toArray tx)).alloc (.cells Y.toArray ty)) tz Z.toArray
  simp only [World.size_alloc] at h4
  have h5 : Below ((w.alloc (.cells X.toArray tx)).alloc (.cells Y.toArray ty)).heap.size ((w.alloc (.cells X.toArray tx)).alloc (.cells Y.toArray ty)) (((w.alloc (.cells X.toArray tx)).alloc (.cells Y.toArray ty)).alloc (.cells Z.toArray tz)) := (Below.refl _ _).alloc (Nat.le_refl _) _
  exact ⟨h1.trans (h5.mono h1.size), h2.past h5, h3.past h5, h4⟩
theorem leav_ok {b : Bas} {p : Policy} {k : Int} (h : leavCode b p k = 0) : resCode b p k = 0 ∧ 2 ≤ k := by
  unfold leavCode at h
  by_cases h0 : resCode b p k = 0
  · rw [if_pos h0] at h
    refine ⟨h0, ?_⟩
    by_cases h2 : k < 2
    · rw [if_pos h2] at h; simp at h
    · omega
  · rw [if_neg h0] at h; exact absurd h h0
theorem val_bound {b : Bas} {p : Policy} {k : Int} (Y : YearOk b p k) : (0 ≤ resAt b p k ∧ resAt b p k ≤ 100000001) ∧ (0 ≤ valV b p k ∧ valV b p k ≤ resAt b p k) := by
  have h := res_bound Y
  refine ⟨h, ?_⟩
  unfold valV
  omega
set_option maxRecDepth 20000 in
set_option maxHeartbeats 8000000 in
theorem impl_checkLeaving_ok (b : Bas) (A : Option Addr) (n cap : Nat) (p : Policy) (k : Int) (w : World) (hB : BasT w A n cap b) (hp : p.fits) (hk : In64 k) (h : leavCode b p k = 0) :
    Calls Try.prog 87 #[.agg #[.int .i64 b.first, .slice A n cap, .int .i64 b.rate], .agg p.row.toArray, .int .i64 k] w fun e w' => e = .returned (.tuple #[.agg #[.int .i64 (partT b p k), .int .i64 (partB b p k), .int .i64 (partD b p k), .int .i64 (resAt b p k), .int .i64 (valV b p k)], .int .i64 0]) ∧ Below w.heap.size w w' := by
  unfold Policy.row
  have HB := Lib.hid (Below.refl w.heap.size w)
  have HH := Lib.hid (Held.nil w)
  have HT := Lib.hid hB; clear hB
  obtain ⟨hb, hr0, hr1, hz⟩ := box3 (w := w) (tx := 28) (ty := 35) (tz := 95) (X := [.int .i64 b.first, .slice A n cap, .int .i64 b.rate]) (Y := [.int .i64 p.kind, .int .i64 p.age, .int .i64 p.years, .int .i64 p.sum, .int .i64 p.load]) (Z := [.int .i64 0, .int .i64 0, .int .i64 0, .int .i64 0, .int .i64 0])
  replace HB := Lib.hid (below_all HB.out hb)
  replace HT := Lib.hid (HT.out.past hb)
  replace HH := Lib.hid (((HH.out.past hb).cons hr0).cons hr1)
  have HZ := Lib.hid hz
  clear hb hr0 hr1 hz
  obtain ⟨h0, h2⟩ := leav_ok h
  clear h
  have HY := Lib.hid (year_ok h0)
  have HPO := Lib.hid (part_ok HY.out (net_bound HY.out.toPolOk))
  have HPB := Lib.hid (res_pol h0)
  have H0 := Lib.hid h0
  obtain ⟨⟨r0, r1⟩, v0, v1⟩ := val_bound HY.out
  have HV := Lib.hid (show valV b p k = resAt b p k * 900 / 1000 from rfl)
  clear h0
  obtain ⟨R, hR⟩ : ∃ R, R = resAt b p k := ⟨_, rfl⟩
  rw [← hR] at r0 r1 v1 HV ⊢
  have HRE := Lib.hid (show roundP (fwdP p.sum (partT b p k) (netP b p) (partB b p k) (partD b p k)) = R from hR.symm)
  clear hR
  have hv1 : R * 900 / 1000 = valV b p k := HV.out.symm
  generalize valV b p k = V at hv1 v0 v1 ⊢
  have HV1 := Lib.hid hv1; clear hv1 HV
  go_enter Try.func87, Try.ntmps87
  have HL_bx := Lib.hid (Rd.box (HH.out.get 1 rfl))
  have HL_px := Lib.hid (Rd.box (HH.out.get 0 rfl))
  go_wp2_with (first | (refine wpList_load_agg rfl 28 _ rfl ⟨w.heap.size, 0, none⟩ rfl [.int .i64 b.first, .slice A n cap, .int .i64 b.rate] HL_bx.out _ Try.underlying28 rfl Bas.size ?_) | (refine wpList_load_agg rfl 35 _ rfl ⟨w.heap.size + 1, 0, none⟩ rfl [.int .i64 p.kind, .int .i64 p.age, .int .i64 p.years, .int .i64 p.sum, .int .i64 p.load] HL_px.out _ Try.underlying35 rfl Policy.size ?_))
  clear HL_bx HL_px
  have HWZ := Lib.hid (show w.heap.size ≤ w.heap.size + 2 by omega)
  generalize (((w.alloc (.cells #[.int .i64 b.first, .slice A n cap, .int .i64 b.rate] 28)).alloc (.cells #[.int .i64 p.kind, .int .i64 p.age, .int .i64 p.years, .int .i64 p.sum, .int .i64 p.load] 35)).alloc (.cells #[.int .i64 0, .int .i64 0, .int .i64 0, .int .i64 0, .int .i64 0] 95)) = v0 at HB HH HT HZ ⊢
  generalize w.heap.size + 2 = gz at HZ HWZ ⊢
  generalize w.heap.size + 1 = g0_1 at HH ⊢
  generalize hg00 : w.heap.size = g0_0 at HH ⊢
  clear hg00
  refine (impl_checkReserve_ok b A n cap p k _ HT.out hp hk H0.out).mono ?_
  rintro e w1 ⟨rfl, hb⟩
  replace HZ := Lib.hid (HZ.out.below' hb)
  replace HB := Lib.hid (below_all HB.out hb)
  replace HT := Lib.hid (HT.out.past hb)
  replace HH := Lib.hid (HH.out.past hb)
  clear hb
  obtain ⟨hb, hr0⟩ := box1 (w := w1) (tx := 90) (X := [.int .i64 (partT b p k), .int .i64 (partB b p k), .int .i64 (partD b p k)])
  replace HB := Lib.hid (below_all HB.out hb)
  replace HT := Lib.hid (HT.out.past hb)
  replace HH := Lib.hid ((HH.out.past hb).cons hr0)
  clear hb hr0
  have hba : Below w1.heap.size w1 (w1.alloc (.cells #[.int .i64 (partT b p k), .int .i64 (partB b p k), .int .i64 (partD b p k)] 90)) := (Below.refl _ w1).alloc (Nat.le_refl _) _
  replace HZ := Lib.hid (HZ.out.below' hba); clear hba
  go_upto_region 6 with fail
  generalize (w1.alloc (.cells #[.int .i64 (partT b p k), .int .i64 (partB b p k), .int .i64 (partD b p k)] 90)) = v1 at HB HH HT HZ ⊢
  generalize w1.heap.size = g1_0 at HH ⊢
  have p0 : v1.cell? ⟨g0_1, 0, none⟩ = some (.int .i64 p.kind) := Rd.bcell (HH.out.get 1 rfl) 0 rfl
  have p1 : v1.cell? ⟨g0_1, 1, none⟩ = some (.int .i64 p.age) := Rd.bcell (HH.out.get 1 rfl) 1 rfl
  have p2 : v1.cell? ⟨g0_1, 2, none⟩ = some (.int .i64 p.years) := Rd.bcell (HH.out.get 1 rfl) 2 rfl
  have p3 : v1.cell? ⟨g0_1, 3, none⟩ = some (.int .i64 p.sum) := Rd.bcell (HH.out.get 1 rfl) 3 rfl
  have p4 : v1.cell? ⟨g0_1, 4, none⟩ = some (.int .i64 p.load) := Rd.bcell (HH.out.get 1 rfl) 4 rfl
  have d3 := fun y : Past v1 => Past.cell p3 y
  clear p0 p1 p2 p3 p4
  have hQ_bx := Lib.hid (Past.cells' (Rd.box (HH.out.get 2 rfl)))
  have hQ_px := Lib.hid (Past.cells' (Rd.box (HH.out.get 1 rfl)))
  have hQ_rp := Lib.hid (Past.cells' (Rd.box (HH.out.get 0 rfl)))
  refine wp_region_past (by kernel_rfl) (by kernel_rfl) ?_
  repeat (first | (go_big_quiet_want; (first | (first | (refine quiet_load_agg 28 _ rfl ⟨g0_0, 0, none⟩ rfl [.int .i64 b.first, .slice A n cap, .int .i64 b.rate] hQ_bx.out _ Try.underlying28 rfl Bas.size ?_) | (refine quiet_load_agg 35 _ rfl ⟨g0_1, 0, none⟩ rfl [.int .i64 p.kind, .int .i64 p.age, .int .i64 p.years, .int .i64 p.sum, .int .i64 p.load] hQ_px.out _ Try.underlying35 rfl Policy.size ?_) | (refine quiet_load_agg 90 _ rfl ⟨g1_0, 0, none⟩ rfl [.int .i64 (partT b p k), .int .i64 (partB b p k), .int .i64 (partD b p k)] hQ_rp.out _ Try.underlying90 rfl ReserveParts.size ?_))); go_simp; go_big_quiet_on) | go_big_quiet_step ((first | (go_at_call 85; exact past_call (impl_netPremium_any b A n cap p _ (HT.out.at_past _) HPB.out)) | (go_at_call 122; exact past_call ((impl_reserveParts_rounded_any p.sum (partT b p k) (netP b p) (partB b p k) (partD b p k) _ HPO.out).mono (by rw [HRE.out]; exact fun _ _ h => h))))))
  refine wpQuiet_nil ?_
  rintro _ ⟨y, rfl⟩
  have hb := y.2
  replace HZ := Lib.hid (HZ.out.below' hb)
  replace HB := Lib.hid (below_all HB.out hb)
  replace HT := Lib.hid (HT.out.past hb)
  replace HH := Lib.hid (HH.out.past hb)
  clear hb
  clear hQ_bx hQ_px hQ_rp
  go_upto_region 7 with fail
  obtain ⟨w5, hw5⟩ : ∃ w5, w5 = y.1 := ⟨_, rfl⟩
  rw [← hw5] at HB HH HT HZ ⊢
  clear hw5 y d3
  have p0 : w5.cell? ⟨g1_0, 0, none⟩ = some (.int .i64 (partT b p k)) := Rd.bcell (HH.out.get 0 rfl) 0 rfl
  have p1 : w5.cell? ⟨g1_0, 1, none⟩ = some (.int .i64 (partB b p k)) := Rd.bcell (HH.out.get 0 rfl) 1 rfl
  have p2 : w5.cell? ⟨g1_0, 2, none⟩ = some (.int .i64 (partD b p k)) := Rd.bcell (HH.out.get 0 rfl) 2 rfl
  have zc0 : w5.cell? ⟨gz, 0, none⟩ = some (.int .i64 0) := HZ.out.cell 0
  have zf0 : w5.frozen? ⟨gz, 0, none⟩ = false := HZ.out.frozen 0
  have zc1 : w5.cell? ⟨gz, 1, none⟩ = some (.int .i64 0) := HZ.out.cell 1
  have zf1 : w5.frozen? ⟨gz, 1, none⟩ = false := HZ.out.frozen 1
  have zc2 : w5.cell? ⟨gz, 2, none⟩ = some (.int .i64 0) := HZ.out.cell 2
  have zf2 : w5.frozen? ⟨gz, 2, none⟩ = false := HZ.out.frozen 2
  have zc3 : w5.cell? ⟨gz, 3, none⟩ = some (.int .i64 0) := HZ.out.cell 3
  have zf3 : w5.frozen? ⟨gz, 3, none⟩ = false := HZ.out.frozen 3
  have zc4 : w5.cell? ⟨gz, 4, none⟩ = some (.int .i64 0) := HZ.out.cell 4
  have zf4 : w5.frozen? ⟨gz, 4, none⟩ = false := HZ.out.frozen 4
  go_region_law (go_simp; go_at_call 93; refine (impl_perMille_any R 900 ⟨by omega, by omega⟩ _).mono ?_; rw [HV1.out]; rintro e w' ⟨rfl, rfl⟩)
  all_goals
    have hz9 : Blk (((((w5.setCell ⟨gz, 0, none⟩ (.int .i64 (partT b p k))).setCell ⟨gz, 1, none⟩ (.int .i64 (partB b p k))).setCell ⟨gz, 2, none⟩ (.int .i64 (partD b p k))).setCell ⟨gz, 3, none⟩ (.int .i64 R)).setCell ⟨gz, 4, none⟩ (.int .i64 V)) gz 95 #[.int .i64 (partT b p k), .int .i64 (partB b p k), .int .i64 (partD b p k), .int .i64 R, .int .i64 V] := by simpa using (((((HZ.out.set_ 0 (.int .i64 (partT b p k))).set_ 1 (.int .i64 (partB b p k))).set_ 2 (.int .i64 (partD b p k))).set_ 3 (.int .i64 R)).set_ 4 (.int .i64 V))
    have hb9 : Below w.heap.size w (((((w5.setCell ⟨gz, 0, none⟩ (.int .i64 (partT b p k))).setCell ⟨gz, 1, none⟩ (.int .i64 (partB b p k))).setCell ⟨gz, 2, none⟩ (.int .i64 (partD b p k))).setCell ⟨gz, 3, none⟩ (.int .i64 R)).setCell ⟨gz, 4, none⟩ (.int .i64 V)) := (((((HB.out.setCell (p := ⟨gz, 0, none⟩) (by have := HWZ.out; show w.heap.size ≤ gz; omega) (.int .i64 (partT b p k))).setCell (p := ⟨gz, 1, none⟩) (by have := HWZ.out; show w.heap.size ≤ gz; omega) (.int .i64 (partB b p k))).setCell (p := ⟨gz, 2, none⟩) (by have := HWZ.out; show w.heap.size ≤ gz; omega) (.int .i64 (partD b p k))).setCell (p := ⟨gz, 3, none⟩) (by have := HWZ.out; show w.heap.size ≤ gz; omega) (.int .i64 R)).setCell (p := ⟨gz, 4, none⟩) (by have := HWZ.out; show w.heap.size ≤ gz; omega) (.int .i64 V))
    generalize (((((w5.setCell ⟨gz, 0, none⟩ (.int .i64 (partT b p k))).setCell ⟨gz, 1, none⟩ (.int .i64 (partB b p k))).setCell ⟨gz, 2, none⟩ (.int .i64 (partD b p k))).setCell ⟨gz, 3, none⟩ (.int .i64 R)).setCell ⟨gz, 4, none⟩ (.int .i64 V)) = W9 at hz9 hb9 ⊢
    have q0 : W9.cell? ⟨gz, 0, none⟩ = some (.int .i64 (partT b p k)) := hz9.cell 0
    have q1 : W9.cell? ⟨gz, 1, none⟩ = some (.int .i64 (partB b p k)) := hz9.cell 1
    have q2 : W9.cell? ⟨gz, 2, none⟩ = some (.int .i64 (partD b p k)) := hz9.cell 2
    have q3 : W9.cell? ⟨gz, 3, none⟩ = some (.int .i64 R) := hz9.cell 3
    have q4 : W9.cell? ⟨gz, 4, none⟩ = some (.int .i64 V) := hz9.cell 4
    go_wp2_with fail
    refine bodyPost_ret (v := .tuple #[.agg #[.int .i64 (partT b p k), .int .i64 (partB b p k), .int .i64 (partD b p k), .int .i64 R, .int .i64 V], .int .i64 0]) (by simp [results, Try.results87, go_sem, q0, q1, q2, q3, q4]) rfl ⟨rfl, by first | exact hb9 | exact hb9.drew⟩
set_option maxRecDepth 20000 in
set_option maxHeartbeats 8000000 in
theorem impl_checkLeaving_no (b : Bas) (A : Option Addr) (n cap : Nat) (p : Policy) (k : Int) (w : World) (hB : BasT w A n cap b) (hp : p.fits) (hk : In64 k) (h : ¬ leavCode b p k = 0) :
    Calls Try.prog 87 #[.agg #[.int .i64 b.first, .slice A n cap, .int .i64 b.rate], .agg p.row.toArray, .int .i64 k] w fun e w' => e = .returned (.tuple #[.agg #[.int .i64 0, .int .i64 0, .int .i64 0, .int .i64 0, .int .i64 0], .int .i64 (leavCode b p k)]) ∧ Below w.heap.size w w' := by
  unfold Policy.row
  have HB := Lib.hid (Below.refl w.heap.size w)
  have HH := Lib.hid (Held.nil w)
  have HT := Lib.hid hB; clear hB
  obtain ⟨hb, hr0, hr1, hz⟩ := box3 (w := w) (tx := 28) (ty := 35) (tz := 95) (X := [.int .i64 b.first, .slice A n cap, .int .i64 b.rate]) (Y := [.int .i64 p.kind, .int .i64 p.age, .int .i64 p.years, .int .i64 p.sum, .int .i64 p.load]) (Z := [.int .i64 0, .int .i64 0, .int .i64 0, .int .i64 0, .int .i64 0])
  replace HB := Lib.hid (below_all HB.out hb)
  replace HT := Lib.hid (HT.out.past hb)
  replace HH := Lib.hid (((HH.out.past hb).cons hr0).cons hr1)
  have HZ := Lib.hid hz
  clear hb hr0 hr1 hz
  by_cases h0 : resCode b p k = 0
  · skip
    have Q := Lib.hid (show leavCode b p k = 4 by unfold leavCode at h ⊢; rw [if_pos h0] at h ⊢; by_cases h2 : k < 2; exact if_pos h2; rw [if_neg h2] at h; exact absurd rfl h)
    have hk2 : k < 2 := by unfold leavCode at h; rw [if_pos h0] at h; by_cases h2 : k < 2; exact h2; rw [if_neg h2] at h; exact absurd rfl h
    clear h
    go_enter Try.func87, Try.ntmps87
    have HL_bx := Lib.hid (Rd.box (HH.out.get 1 rfl))
    have HL_px := Lib.hid (Rd.box (HH.out.get 0 rfl))
    go_wp2_with (first | (refine wpList_load_agg rfl 28 _ rfl ⟨w.heap.size, 0, none⟩ rfl [.int .i64 b.first, .slice A n cap, .int .i64 b.rate] HL_bx.out _ Try.underlying28 rfl Bas.size ?_) | (refine wpList_load_agg rfl 35 _ rfl ⟨w.heap.size + 1, 0, none⟩ rfl [.int .i64 p.kind, .int .i64 p.age, .int .i64 p.years, .int .i64 p.sum, .int .i64 p.load] HL_px.out _ Try.underlying35 rfl Policy.size ?_))
    clear HL_bx HL_px
    have HWZ := Lib.hid (show w.heap.size ≤ w.heap.size + 2 by omega)
    generalize (((w.alloc (.cells #[.int .i64 b.first, .slice A n cap, .int .i64 b.rate] 28)).alloc (.cells #[.int .i64 p.kind, .int .i64 p.age, .int .i64 p.years, .int .i64 p.sum, .int .i64 p.load] 35)).alloc (.cells #[.int .i64 0, .int .i64 0, .int .i64 0, .int .i64 0, .int .i64 0] 95)) = v0 at HB HH HT HZ ⊢
    generalize w.heap.size + 2 = gz at HZ HWZ ⊢
    generalize w.heap.size + 1 = g0_1 at HH ⊢
    generalize hg00 : w.heap.size = g0_0 at HH ⊢
    clear hg00
    refine (impl_checkReserve_ok b A n cap p k _ HT.out hp hk h0).mono ?_
    rintro e w1 ⟨rfl, hb⟩
    replace HZ := Lib.hid (HZ.out.below' hb)
    replace HB := Lib.hid (below_all HB.out hb)
    replace HT := Lib.hid (HT.out.past hb)
    replace HH := Lib.hid (HH.out.past hb)
    clear hb
    obtain ⟨hb, hr0⟩ := box1 (w := w1) (tx := 90) (X := [.int .i64 (partT b p k), .int .i64 (partB b p k), .int .i64 (partD b p k)])
    replace HB := Lib.hid (below_all HB.out hb)
    replace HT := Lib.hid (HT.out.past hb)
    replace HH := Lib.hid ((HH.out.past hb).cons hr0)
    clear hb hr0
    have hba : Below w1.heap.size w1 (w1.alloc (.cells #[.int .i64 (partT b p k), .int .i64 (partB b p k), .int .i64 (partD b p k)] 90)) := (Below.refl _ w1).alloc (Nat.le_refl _) _
    replace HZ := Lib.hid (HZ.out.below' hba); clear hba
    go_upto_region 5 with fail
    generalize (w1.alloc (.cells #[.int .i64 (partT b p k), .int .i64 (partB b p k), .int .i64 (partD b p k)] 90)) = v1 at HB HH HT HZ ⊢
    generalize w1.heap.size = g1_0 at HH ⊢
    have H1d : Hid (∀ v ∈ ([.int .i64 0, .int .i64 0, .int .i64 0, .int .i64 0, .int .i64 0] : List Value), v.oneCell' = true) := Lib.hid (by simp [Value.oneCell'])
    go_wp2_with (refine wpList_store_agg rfl 95 _ _ rfl gz 0 [.int .i64 0, .int .i64 0, .int .i64 0, .int .i64 0, .int .i64 0] rfl rfl 95 #[.int .i64 0, .int .i64 0, .int .i64 0, .int .i64 0, .int .i64 0] HZ.out Leaving.size (by simp) H1d.out ?_)
    intro w6 hR6 hg6 _
    have hR6' : Blk w6 gz 95 #[.int .i64 0, .int .i64 0, .int .i64 0, .int .i64 0, .int .i64 0] := hR6
    have r0 : w6.cell? ⟨gz, 0, none⟩ = some (.int .i64 0) := hR6'.cell 0
    have r1 : w6.cell? ⟨gz, 1, none⟩ = some (.int .i64 0) := hR6'.cell 1
    have r2 : w6.cell? ⟨gz, 2, none⟩ = some (.int .i64 0) := hR6'.cell 2
    have r3 : w6.cell? ⟨gz, 3, none⟩ = some (.int .i64 0) := hR6'.cell 3
    have r4 : w6.cell? ⟨gz, 4, none⟩ = some (.int .i64 0) := hR6'.cell 4
    go_wp2
    refine bodyPost_ret (v := .tuple #[.agg #[.int .i64 0, .int .i64 0, .int .i64 0, .int .i64 0, .int .i64 0], .int .i64 4]) (by simp [results, Try.results87, go_sem, r0, r1, r2, r3, r4]) rfl ⟨by rw [Q.out], HB.out.grown hg6 HB.out.size (fun k hk => by injection hk with hk; have := HWZ.out; omega)⟩
  · skip
    have Q := Lib.hid (show leavCode b p k = resCode b p k by unfold leavCode; rw [if_neg h0])
    have hz : (resCode b p k != 0) = true := by simpa [bne] using h0
    go_enter Try.func87, Try.ntmps87
    have HL_bx := Lib.hid (Rd.box (HH.out.get 1 rfl))
    have HL_px := Lib.hid (Rd.box (HH.out.get 0 rfl))
    go_wp2_with (first | (refine wpList_load_agg rfl 28 _ rfl ⟨w.heap.size, 0, none⟩ rfl [.int .i64 b.first, .slice A n cap, .int .i64 b.rate] HL_bx.out _ Try.underlying28 rfl Bas.size ?_) | (refine wpList_load_agg rfl 35 _ rfl ⟨w.heap.size + 1, 0, none⟩ rfl [.int .i64 p.kind, .int .i64 p.age, .int .i64 p.years, .int .i64 p.sum, .int .i64 p.load] HL_px.out _ Try.underlying35 rfl Policy.size ?_))
    clear HL_bx HL_px
    have HWZ := Lib.hid (show w.heap.size ≤ w.heap.size + 2 by omega)
    generalize (((w.alloc (.cells #[.int .i64 b.first, .slice A n cap, .int .i64 b.rate] 28)).alloc (.cells #[.int .i64 p.kind, .int .i64 p.age, .int .i64 p.years, .int .i64 p.sum, .int .i64 p.load] 35)).alloc (.cells #[.int .i64 0, .int .i64 0, .int .i64 0, .int .i64 0, .int .i64 0] 95)) = v0 at HB HH HT HZ ⊢
    generalize w.heap.size + 2 = gz at HZ HWZ ⊢
    generalize w.heap.size + 1 = g0_1 at HH ⊢
    generalize hg00 : w.heap.size = g0_0 at HH ⊢
    clear hg00
    refine (impl_checkReserve_no b A n cap p k _ HT.out hp hk h0).mono ?_
    rintro e w1 ⟨rfl, hb⟩
    replace HZ := Lib.hid (HZ.out.below' hb)
    replace HB := Lib.hid (below_all HB.out hb)
    replace HT := Lib.hid (HT.out.past hb)
    replace HH := Lib.hid (HH.out.past hb)
    clear hb
    obtain ⟨hb, hr0⟩ := box1 (w := w1) (tx := 90) (X := [.int .i64 0, .int .i64 0, .int .i64 0])
    replace HB := Lib.hid (below_all HB.out hb)
    replace HT := Lib.hid (HT.out.past hb)
    replace HH := Lib.hid ((HH.out.past hb).cons hr0)
    clear hb hr0
    have hba : Below w1.heap.size w1 (w1.alloc (.cells #[.int .i64 0, .int .i64 0, .int .i64 0] 90)) := (Below.refl _ w1).alloc (Nat.le_refl _) _
    replace HZ := Lib.hid (HZ.out.below' hba); clear hba
    clear h0 h
    generalize hc : resCode b p k = c at hz Q ⊢
    clear hc
    go_upto_region 3 with fail
    generalize (w1.alloc (.cells #[.int .i64 0, .int .i64 0, .int .i64 0] 90)) = v1 at HB HH HT HZ ⊢
    generalize w1.heap.size = g1_0 at HH ⊢
    have H1d : Hid (∀ v ∈ ([.int .i64 0, .int .i64 0, .int .i64 0, .int .i64 0, .int .i64 0] : List Value), v.oneCell' = true) := Lib.hid (by simp [Value.oneCell'])
    go_wp2_with (refine wpList_store_agg rfl 95 _ _ rfl gz 0 [.int .i64 0, .int .i64 0, .int .i64 0, .int .i64 0, .int .i64 0] rfl rfl 95 #[.int .i64 0, .int .i64 0, .int .i64 0, .int .i64 0, .int .i64 0] HZ.out Leaving.size (by simp) H1d.out ?_)
    intro w6 hR6 hg6 _
    have hR6' : Blk w6 gz 95 #[.int .i64 0, .int .i64 0, .int .i64 0, .int .i64 0, .int .i64 0] := hR6
    have r0 : w6.cell? ⟨gz, 0, none⟩ = some (.int .i64 0) := hR6'.cell 0
    have r1 : w6.cell? ⟨gz, 1, none⟩ = some (.int .i64 0) := hR6'.cell 1
    have r2 : w6.cell? ⟨gz, 2, none⟩ = some (.int .i64 0) := hR6'.cell 2
    have r3 : w6.cell? ⟨gz, 3, none⟩ = some (.int .i64 0) := hR6'.cell 3
    have r4 : w6.cell? ⟨gz, 4, none⟩ = some (.int .i64 0) := hR6'.cell 4
    go_wp2
    refine bodyPost_ret (v := .tuple #[.agg #[.int .i64 0, .int .i64 0, .int .i64 0, .int .i64 0, .int .i64 0], .int .i64 c]) (by simp [results, Try.results87, go_sem, r0, r1, r2, r3, r4]) rfl ⟨by rw [Q.out], HB.out.grown hg6 HB.out.size (fun k hk => by injection hk with hk; have := HWZ.out; omega)⟩
end Go.Proofs.Ytbjdbpdgacfcpaa
end
