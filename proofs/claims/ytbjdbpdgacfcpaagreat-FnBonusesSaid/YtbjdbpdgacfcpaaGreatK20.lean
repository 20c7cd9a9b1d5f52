/- Parts of a proof, one after another: Sort3. No condition. -/
import Derived.Test.YtbjdbpdgacfcpaaGreatK19
import Derived.Deep.DeepCutAuto
/- Sorting the indices: symmetric merging (printed by sort3.py). -/
section
namespace Go.Proofs.YtbjdbpdgacfcpaaGreat
open Go.RowKit Go.BigFrame

set_option maxRecDepth 20000 in
set_option maxHeartbeats 16000000 in
theorem symMerge_any {B g n c : Nat} {q1 q2 q3 : Nat} {am s : Int} {X : Option Addr} {mw xc : Nat} {ws : List Int} (hn : n ≤ 1000) : ∀ (N a m b : Nat) (w : World) (f : Nat → Nat), b - a ≤ N → a < m → m < b → b ≤ n → Cm w q1 q2 q3 g am s X mw xc ws → SW B w w g n c f → (∀ k, k < n → f k < mw) →
    Srt (rests am s ws) f a m → Srt (rests am s ws) f m b → LR f a m b →
    Calls Tryz.prog 202 #[.slice (some ⟨g, 0, none⟩) n c, .int .i64 (a : Int), .int .i64 (m : Int), .int .i64 (b : Int), .func (.func 186) #[] #[.pointer (some ⟨q1, 0, none⟩), .pointer (some ⟨q2, 0, none⟩), .pointer (some ⟨q3, 0, none⟩)]] w
      fun e w' => e = .returned (.tuple #[]) ∧ ∃ f', SW B w w' g n c f' ∧ Mv a b f f' ∧ Srt (rests am s ws) f' a b := by
  intro N
  induction N with
  | zero => intro a m b w f h0 ham hmb; omega
  | succ N ih =>
    intro a m b w f hN ham hmb hbn C S hm s1 s2 hl
    have IH := Lib.hid ih; clear ih
    have HC := Lib.hid C; clear C
    have HS := Lib.hid S; clear S
    have HM := Lib.hid hm; clear hm
    have H1 := Lib.hid s1; clear s1
    have H2 := Lib.hid s2; clear s2
    have HL := Lib.hid hl; clear hl
    have hbi : (b : Int) ≤ 1000 := by omega
    have hmi : (m : Int) ≤ 1000 := by omega
    have hai : (a : Int) ≤ 1000 := by omega
    have hmn : (m : Int) < (n : Int) := by omega
    have han : (a : Int) < (n : Int) := by omega
    by_cases hone : m = a + 1
    · have hb1 : ((m : Int) - (a : Int) == 1) = true := by simp; omega
      have HONE := Lib.hid hone; clear hone
      go_enter Tryz.func202, Tryz.ntmps202
      go_wp2
      go_loopw [10, 11] (fun i j wr => ∃ (I J : Nat), i = .int .i64 (I : Int) ∧ j = .int .i64 (J : Int) ∧ m ≤ I ∧ I ≤ J ∧ J ≤ b ∧ Hid (∀ k, m ≤ k → k < I → Gt (rests am s ws) (f k) (f a)) ∧ Hid (∀ k, J ≤ k → k < b → ¬ Gt (rests am s ws) (f k) (f a)) ∧ Hid (SW B w wr g n c f)) (fun i j _ => (intOf j).toNat - (intOf i).toNat)
      case atStart => exact ⟨m, b, by go_num, by go_num, Nat.le_refl _, by omega, Nat.le_refl _, Lib.hid (fun k h h2 => by omega), Lib.hid (fun k h h2 => by omega), HS⟩
      case round =>
        obtain ⟨I, J, rfl, rfl, hI, hIJ, hJ, HPL, HPR, HW⟩ := hrel
        rename World => w2
        by_cases hlt : I < J
        · have hlti : (I : Int) < (J : Int) := by omega
          obtain ⟨H, hH⟩ : ∃ H, H = (I + J) / 2 := ⟨_, rfl⟩
          have hHI : I ≤ H := by omega
          have hHJ : H < J := by omega
          have hHn : H < n := by omega
          have hHi : (H : Int) < (n : Int) := by omega
          have eH : ((I : Int) + (J : Int)) / 2 = (H : Int) := by omega
          have HH := Lib.hid hH; clear hH
          have HEH := Lib.hid eH; clear eH
          have HCC := Lib.hid (HC.out.sw HW.out)
          have HX1 := HM.out (H) (by omega)
          have HX2 := HM.out (a) (by omega)
          obtain ⟨c1, z1⟩ := HW.out.cell (k := H) (by omega)
          obtain ⟨c2, z2⟩ := HW.out.cell (k := a) (by omega)
          have d1 := fun z : Past w2 => Past.cell c1 z
          have d2 := fun z : Past w2 => Past.cell c2 z
          clear c1 c2 z1 z2
          obtain ⟨v, hv⟩ : ∃ v, cmpV (rests am s ws) (f (H)) (f (a)) = v := ⟨_, rfl⟩
          have HV := Lib.hid hv
          go_upto_region 5 with fail
          rw [HEH.out]
          by_cases hg : Gt (rests am s ws) (f (H)) (f (a))
          · have hvn : v < 0 := by rw [← hv]; exact cmpV_neg.2 hg
            have hvb : decide (v < 0) = true := by simpa using hvn
            have HG := Lib.hid hg; clear hv hg hvn
            go_wp2
            refine wp_region_past (by kernel_rfl) (by kernel_rfl) ?_
            repeat (go_big_quiet_step ((go_simp; go_at_call 186; exact past_call (cmp_past HCC.out HX1 HX2 HV.out _))))
            refine wpQuiet_nil ?_
            rintro _ ⟨z, rfl⟩
            clear d1 d2
            go_wp2
            go_roundw
            case rel => exact ⟨H + 1, J, by go_num, rfl, by omega, by omega, hJ, Lib.hid (fun k h h2 => by by_cases hk : k = H; exact hk ▸ HG.out; exact Gt.up (H2.out k H h (by omega) (by omega)) HG.out), HPR, Lib.hid (HW.out.past z.2)⟩
            case measure => simp [intOf]; omega
          · have hvn : ¬ v < 0 := by rw [← hv]; exact fun h => hg (cmpV_neg.1 h)
            have hvb : decide (v < 0) = false := by simpa using hvn
            have HG := Lib.hid hg; clear hv hg hvn
            go_wp2
            refine wp_region_past (by kernel_rfl) (by kernel_rfl) ?_
            repeat (go_big_quiet_step ((go_simp; go_at_call 186; exact past_call (cmp_past HCC.out HX1 HX2 HV.out _))))
            refine wpQuiet_nil ?_
            rintro _ ⟨z, rfl⟩
            clear d1 d2
            go_wp2
            go_roundw
            case rel => exact ⟨I, H, rfl, rfl, hI, hHI, by omega, HPL, Lib.hid (fun k h h2 => by by_cases hk : k = H; exact hk ▸ HG.out; exact Gt.down (H2.out H k (by omega) (by omega) h2) HG.out), Lib.hid (HW.out.past z.2)⟩
            case measure => simp [intOf]; omega
        · have hIJe : I = J := by omega
          subst hIJe
          have hI1 : (I : Int) - 1 ≤ 1000 := by omega
          rename World => w3
          go_wp2
          go_loopw [13] (fun k wr => ∃ K : Nat, k = .int .i64 (K : Int) ∧ a ≤ K ∧ K ≤ I - 1 ∧ Hid (SW B w wr g n c (mvR a K f))) (fun k _ => I - (intOf k).toNat)
          case atStart => exact ⟨a, rfl, Nat.le_refl _, by omega, Lib.hid (by rw [mvR_zero]; exact HW.out)⟩
          case round =>
            clear HW
            obtain ⟨K, rfl, hK, hKI, HW⟩ := hrel
            by_cases hlt2 : K < I - 1
            · have hk1 : (K : Int) < (I : Int) - 1 := by omega
              have hkn : (K : Int) < (n : Int) := by omega
              have hkn1 : (K : Int) + 1 < (n : Int) := by omega
              obtain ⟨c1, z1⟩ := HW.out.cell (k := K) (by omega)
              obtain ⟨c2, z2⟩ := HW.out.cell (k := K + 1) (by omega)
              go_wp2
              go_region
              go_wp2
              go_roundw
              case rel => exact ⟨K + 1, by go_num, by omega, by omega, Lib.hid (by rw [← mvR_succ hK]; exact (HW.out.swap (by omega) (by omega)).drew)⟩
              case measure => simp [intOf]; omega
            · have hk1 : ¬ (K : Int) < (I : Int) - 1 := by omega
              have hKe : K = I - 1 := by omega
              go_wp2
              refine bodyPost_ret (results_none rfl _ _ _) rfl ?_
              have hone := HONE.out
              subst hKe
              exact ⟨rfl, mvR a (I - 1) f, HW.out, mvR_mv f _ (by omega) (by omega), merge_first (by rw [← hone]; exact H2.out) (by rw [← hone]; exact HL.out) (by omega) (by omega) (by rw [← hone]; exact HPL.out) HPR.out⟩
    have hb1 : ((m : Int) - (a : Int) == 1) = false := by simp; omega
    have HONE := Lib.hid hone; clear hone
    by_cases htwo : b = m + 1
    · have hb2 : ((b : Int) - (m : Int) == 1) = true := by simp; omega
      have HTWO := Lib.hid htwo; clear htwo
      go_enter Tryz.func202, Tryz.ntmps202
      go_wp2
      go_loopw [14, 15] (fun i j wr => ∃ (I J : Nat), i = .int .i64 (I : Int) ∧ j = .int .i64 (J : Int) ∧ a ≤ I ∧ I ≤ J ∧ J ≤ m ∧ Hid (∀ k, a ≤ k → k < I → ¬ Gt (rests am s ws) (f m) (f k)) ∧ Hid (∀ k, J ≤ k → k < m → Gt (rests am s ws) (f m) (f k)) ∧ Hid (SW B w wr g n c f)) (fun i j _ => (intOf j).toNat - (intOf i).toNat)
      case atStart => exact ⟨a, m, by go_num, by go_num, Nat.le_refl _, by omega, Nat.le_refl _, Lib.hid (fun k h h2 => by omega), Lib.hid (fun k h h2 => by omega), HS⟩
      case round =>
        obtain ⟨I, J, rfl, rfl, hI, hIJ, hJ, HPL, HPR, HW⟩ := hrel
        rename World => w2
        by_cases hlt : I < J
        · have hlti : (I : Int) < (J : Int) := by omega
          obtain ⟨H, hH⟩ : ∃ H, H = (I + J) / 2 := ⟨_, rfl⟩
          have hHI : I ≤ H := by omega
          have hHJ : H < J := by omega
          have hHn : H < n := by omega
          have hHi : (H : Int) < (n : Int) := by omega
          have eH : ((I : Int) + (J : Int)) / 2 = (H : Int) := by omega
          have HH := Lib.hid hH; clear hH
          have HEH := Lib.hid eH; clear eH
          have HCC := Lib.hid (HC.out.sw HW.out)
          have HX1 := HM.out (m) (by omega)
          have HX2 := HM.out (H) (by omega)
          obtain ⟨c1, z1⟩ := HW.out.cell (k := m) (by omega)
          obtain ⟨c2, z2⟩ := HW.out.cell (k := H) (by omega)
          have d1 := fun z : Past w2 => Past.cell c1 z
          have d2 := fun z : Past w2 => Past.cell c2 z
          clear c1 c2 z1 z2
          obtain ⟨v, hv⟩ : ∃ v, cmpV (rests am s ws) (f (m)) (f (H)) = v := ⟨_, rfl⟩
          have HV := Lib.hid hv
          go_upto_region 17 with fail
          rw [HEH.out]
          by_cases hg : Gt (rests am s ws) (f (m)) (f (H))
          · have hvn : v < 0 := by rw [← hv]; exact cmpV_neg.2 hg
            have hvb : decide (v < 0) = true := by simpa using hvn
            have HG := Lib.hid hg; clear hv hg hvn
            go_wp2
            refine wp_region_past (by kernel_rfl) (by kernel_rfl) ?_
            repeat (go_big_quiet_step ((go_simp; go_at_call 186; exact past_call (cmp_past HCC.out HX1 HX2 HV.out _))))
            refine wpQuiet_nil ?_
            rintro _ ⟨z, rfl⟩
            clear d1 d2
            go_wp2
            go_roundw
            case rel => exact ⟨I, H, rfl, rfl, hI, hHI, by omega, HPL, Lib.hid (fun k h h2 => by by_cases hk : k = H; exact hk ▸ HG.out; exact Gt.right (H1.out H k (by omega) (by omega) h2) HG.out), Lib.hid (HW.out.past z.2)⟩
            case measure => simp [intOf]; omega
          · have hvn : ¬ v < 0 := by rw [← hv]; exact fun h => hg (cmpV_neg.1 h)
            have hvb : decide (v < 0) = false := by simpa using hvn
            have HG := Lib.hid hg; clear hv hg hvn
            go_wp2
            refine wp_region_past (by kernel_rfl) (by kernel_rfl) ?_
            repeat (go_big_quiet_step ((go_simp; go_at_call 186; exact past_call (cmp_past HCC.out HX1 HX2 HV.out _))))
            refine wpQuiet_nil ?_
            rintro _ ⟨z, rfl⟩
            clear d1 d2
            go_wp2
            go_roundw
            case rel => exact ⟨H + 1, J, by go_num, rfl, by omega, by omega, hJ, Lib.hid (fun k h h2 => by by_cases hk : k = H; exact hk ▸ HG.out; exact Gt.rdown (H1.out k H h (by omega) (by omega)) HG.out), HPR, Lib.hid (HW.out.past z.2)⟩
            case measure => simp [intOf]; omega
        · have hIJe : I = J := by omega
          subst hIJe
          rename World => w3
          go_wp2
          go_loopw [17] (fun k wr => ∃ K : Nat, k = .int .i64 (K : Int) ∧ I ≤ K ∧ K ≤ m ∧ Hid (SW B w wr g n c (mvL m K f))) (fun k _ => (intOf k).toNat)
          case atStart => exact ⟨m, rfl, by omega, Nat.le_refl _, Lib.hid (by rw [mvL_zero]; exact HW.out)⟩
          case round =>
            clear HW
            obtain ⟨K, rfl, hK, hKm, HW⟩ := hrel
            by_cases hlt2 : I < K
            · have hk1 : (I : Int) < (K : Int) := by omega
              have hkn : (K : Int) < (n : Int) := by omega
              have hkn1 : (K : Int) - 1 < (n : Int) := by omega
              have hkn0 : 0 ≤ (K : Int) - 1 := by omega
              obtain ⟨c1, z1⟩ := HW.out.cell (k := K) (by omega)
              obtain ⟨c2, z2⟩ := HW.out.cell (k := K - 1) (by omega)
              go_wp2
              go_region
              go_wp2
              go_roundw
              case rel => exact ⟨K - 1, by congr 1; omega, by omega, by omega, Lib.hid (by rw [← mvL_succ hKm (by omega)]; exact (HW.out.swap (by omega) (by omega)).drew)⟩
              case measure => simp [intOf]; omega
            · have hk1 : ¬ (I : Int) < (K : Int) := by omega
              have hKe : K = I := by omega
              go_wp2
              refine bodyPost_ret (results_none rfl _ _ _) rfl ?_
              have htwo := HTWO.out
              subst hKe
              refine ⟨rfl, mvL m K f, HW.out, mvL_mv f hmb (m - K) K (by omega) (by omega), ?_⟩
              rw [htwo]
              exact merge_last H1.out (by rw [← htwo]; exact HL.out) (by omega) (by omega) HPL.out HPR.out
    have hb2 : ((b : Int) - (m : Int) == 1) = false := by simp; omega
    have HTWO := Lib.hid htwo; clear htwo
    obtain ⟨M, hM⟩ : ∃ M, M = (a + b) / 2 := ⟨_, rfl⟩
    obtain ⟨Q, hQ⟩ : ∃ Q, Q = M + m := ⟨_, rfl⟩
    obtain ⟨P, hP⟩ : ∃ P, P = Q - 1 := ⟨_, rfl⟩
    have haM : a < M := by have := HONE.out; have := HTWO.out; omega
    have hMb : M < b := by omega
    have hM2 : 2 * M ≤ a + b ∧ a + b ≤ 2 * M + 1 := by omega
    have eM : ((a : Int) + (b : Int)) / 2 = (M : Int) := by omega
    have eQ : (M : Int) + (m : Int) = (Q : Int) := by omega
    have eP : (Q : Int) - 1 = (P : Int) := by omega
    have EM := Lib.hid eM; have EQ := Lib.hid eQ; have EP := Lib.hid eP
    have HMD := Lib.hid hM; have HQD := Lib.hid hQ; have HPD := Lib.hid hP
    have hMi : (M : Int) ≤ 1000 := by omega
    have hQi : (Q : Int) ≤ 2000 := by omega
    have hQm : m ≤ Q := by omega
    have hPi : (P : Int) ≤ 2000 := by omega
    clear eM eQ eP hM hQ hP
    go_enter Tryz.func202, Tryz.ntmps202
    go_upto_region 25 with fail
    rw [EM.out]
    go_upto_region 26 with fail
    rw [EQ.out]
    by_cases hmid : M < m
    · skip
      have hmd : decide ((M : Int) < (m : Int)) = true := by simp; omega
      have hmd2 : decide (M < m) = true := by simp; omega
      obtain ⟨S0, hS0⟩ : ∃ S0, S0 = Q - b := ⟨_, rfl⟩
      have hSq : S0 + b = Q ∨ Q ≤ b := by omega
      have hqb : b ≤ Q := by have := HQD.out; omega
      have eS : (Q : Int) - (b : Int) = (S0 : Int) := by omega
      have ES := Lib.hid eS; have HSD := Lib.hid hS0; clear eS hS0
      go_upto_region 32 with fail
      rw [ES.out]
      go_upto_region 33 with fail
      rw [EP.out]
      go_loopw [20, 21] (fun i j wr => ∃ (I J : Nat), i = .int .i64 (I : Int) ∧ j = .int .i64 (J : Int) ∧ S0 ≤ I ∧ I ≤ J ∧ J ≤ M ∧ Hid (I = S0 ∨ ¬ Gt (rests am s ws) (f (Q - I)) (f (I - 1))) ∧ Hid (J = M ∨ Gt (rests am s ws) (f (P - J)) (f J)) ∧ Hid (SW B w wr g n c f)) (fun i j _ => (intOf j).toNat - (intOf i).toNat)
      case atStart => exact ⟨S0, M, rfl, rfl, Nat.le_refl _, by have := HSD.out; have := HQD.out; omega, Nat.le_refl _, Lib.hid (.inl rfl), Lib.hid (.inl rfl), HS⟩
      case round =>
        obtain ⟨I, J, rfl, rfl, hI, hIJ, hJ, HPL, HPR, HW⟩ := hrel
        rename World => w2
        by_cases hlt : I < J
        · have hlti : (I : Int) < (J : Int) := by omega
          obtain ⟨H, hH⟩ : ∃ H, H = (I + J) / 2 := ⟨_, rfl⟩
          have hHI : I ≤ H := by omega
          have hHJ : H < J := by omega
          have hHn : H < n := by omega
          have hHi : (H : Int) < (n : Int) := by omega
          have hq9 := HQD.out; have hp9 := HPD.out; have hs9 := HSD.out
          have hPH : P - H < n := by omega
          have hPHi : (P : Int) - (H : Int) < (n : Int) := by omega
          have hPH0 : 0 ≤ (P : Int) - (H : Int) := by omega
          clear hq9 hp9 hs9
          have eH : ((I : Int) + (J : Int)) / 2 = (H : Int) := by omega
          have HH := Lib.hid hH; clear hH
          have HEH := Lib.hid eH; clear eH
          have HCC := Lib.hid (HC.out.sw HW.out)
          have HX1 := HM.out (P - H) (by omega)
          have HX2 := HM.out (H) (by omega)
          obtain ⟨c1, z1⟩ := HW.out.cell (k := P - H) (by omega)
          obtain ⟨c2, z2⟩ := HW.out.cell (k := H) (by omega)
          have d1 := fun z : Past w2 => Past.cell c1 z
          have d2 := fun z : Past w2 => Past.cell c2 z
          clear c1 c2 z1 z2
          obtain ⟨v, hv⟩ : ∃ v, cmpV (rests am s ws) (f (P - H)) (f (H)) = v := ⟨_, rfl⟩
          have HV := Lib.hid hv
          go_upto_region 35 with fail
          rw [HEH.out]
          by_cases hg : Gt (rests am s ws) (f (P - H)) (f (H))
          · have hvn : v < 0 := by rw [← hv]; exact cmpV_neg.2 hg
            have hvb : decide (v < 0) = true := by simpa using hvn
            have HG := Lib.hid hg; clear hv hg hvn
            go_wp2
            refine wp_region_past (by kernel_rfl) (by kernel_rfl) ?_
            repeat (go_big_quiet_step ((go_simp; go_at_call 186; exact past_call (cmp_past HCC.out HX1 HX2 HV.out _))))
            refine wpQuiet_nil ?_
            rintro _ ⟨z, rfl⟩
            clear d1 d2
            go_wp2
            go_roundw
            case rel => exact ⟨I, H, rfl, rfl, hI, hHI, by omega, HPL, Lib.hid (.inr HG.out), Lib.hid (HW.out.past z.2)⟩
            case measure => simp [intOf]; omega
          · have hvn : ¬ v < 0 := by rw [← hv]; exact fun h => hg (cmpV_neg.1 h)
            have hvb : decide (v < 0) = false := by simpa using hvn
            have HG := Lib.hid hg; clear hv hg hvn
            go_wp2
            refine wp_region_past (by kernel_rfl) (by kernel_rfl) ?_
            repeat (go_big_quiet_step ((go_simp; go_at_call 186; exact past_call (cmp_past HCC.out HX1 HX2 HV.out _))))
            refine wpQuiet_nil ?_
            rintro _ ⟨z, rfl⟩
            clear d1 d2
            go_wp2
            go_roundw
            case rel => exact ⟨H + 1, J, by go_num, rfl, by omega, by omega, hJ, Lib.hid (.inr (by rw [show Q - (H + 1) = P - H by have := HPD.out; omega, Nat.add_sub_cancel]; exact HG.out)), HPR, Lib.hid (HW.out.past z.2)⟩
            case measure => simp [intOf]; omega
        · have hIJe : I = J := by omega
          subst hIJe
          obtain ⟨E, hE⟩ : ∃ E, E = Q - I := ⟨_, rfl⟩
          have hq9 := HQD.out; have hp9 := HPD.out; have hs9 := HSD.out
          have hIQ : I ≤ Q := by omega
          have eE : (Q : Int) - (I : Int) = (E : Int) := by omega
          have hcut : CutAt (rests am s ws) a m b M I f := by
            have e1 : M + m - I = Q - I := by omega
            refine ⟨by omega, by omega, by omega, by omega, by omega, by omega, by omega, by omega, fun h1 h2 => ?_, fun h1 h2 => ?_⟩
            · rw [e1] at h2 ⊢
              rcases HPL.out with h | h
              · omega
              · exact h
            · rw [e1] at h2 ⊢
              rcases HPR.out with h | h
              · omega
              · rw [show Q - I - 1 = P - I by omega]; exact h
          have hEb := hcut.eb; have hEm := hcut.me; have hEM := hcut.em; have hIm := hcut.sm; have hIM := hcut.smid; have hIa := hcut.ac
          rw [show M + m - I = E by omega] at hEb hEm hEM
          have HHV := Lib.hid (hcut.halves H1.out H2.out HL.out)
          have HEQ2 := Lib.hid (show M + m - I = E by omega)
          have EE := Lib.hid eE
          have hEi : (E : Int) ≤ 1000 := by omega
          have hII : (I : Int) ≤ 1000 := by omega
          rename World => w3
          clear hE hcut eE hq9 hp9 hs9 hlt
          go_upto_region 39 with fail
          rw [EE.out]
          by_cases hR1 : I < m
          · have hd1 : decide ((I : Int) < (m : Int)) = true := by simp; omega
            have hd1n : decide (I < m) = true := by simp; omega
            by_cases hR2 : m < E
            · have hd2 : decide ((m : Int) < (E : Int)) = true := by simp; omega
              have hd2n : decide (m < E) = true := by simp; omega
              have HCALL := Lib.hid (rotate_any I m E (.func (.func 186) #[] #[.pointer (some ⟨q1, 0, none⟩), .pointer (some ⟨q2, 0, none⟩), .pointer (some ⟨q3, 0, none⟩)]) (SW.start HW.out.res) hn hR1 hR2 (by omega))
              go_upto_region 41 with (go_at_call 204; refine HCALL.out.mono ?_; rintro e w4 ⟨rfl, hs⟩)
              replace HW := Lib.hid (HW.out.trans hs)
              clear hs HCALL hd1 hd1n hd2 hd2n
              by_cases hI1 : a < I
              · have hd3 : decide ((a : Int) < (I : Int)) = true := by simp; omega
                have hd3n : decide (a < I) = true := by simp; omega
                by_cases hI2 : I < M
                · have hd4 : decide ((I : Int) < (M : Int)) = true := by simp; omega
                  have hd4n : decide (I < M) = true := by simp; omega
                  have HLT := Lib.hid (fun k hk => (((rot_mv (a := I) (m := m) (b := E) (by omega) (by omega) f).wide (a' := 0) (b' := n) (by omega) (by omega)).lt (Nat.le_refl _) HM.out) k hk)
                  have HCC := Lib.hid (HC.out.sw HW.out)
                  have HS9 := Lib.hid (show Srt (rests am s ws) (rotF I m E f) a I ∧ Srt (rests am s ws) (rotF I m E f) I M ∧ LR (rotF I m E f) a I M from by
                    have hv := HHV.out
                    rw [HEQ2.out] at hv
                    obtain ⟨v1, v2, v3, v4, v5, v6, v7⟩ := hv
                    exact ⟨v1, v2, v3⟩)
                  have HCALL := Lib.hid (IH.out a I M _ (rotF I m E f) (by omega) hI1 hI2 (by omega) HCC.out (SW.start HW.out.res) HLT.out HS9.out.1 HS9.out.2.1 HS9.out.2.2)
                  go_upto_region 43 with (go_at_call 202; refine HCALL.out.mono ?_; rintro e w5 ⟨rfl, g1, hs, hm2, ht2⟩)
                  have G1 := Lib.hid hm2
                  have T1 := Lib.hid ht2
                  replace HW := Lib.hid (HW.out.trans hs)
                  clear hm2 ht2 hs HCALL HS9 HLT HCC hd3 hd3n hd4 hd4n
                  by_cases hE1 : M < E
                  · have hd5 : decide ((M : Int) < (E : Int)) = true := by simp; omega
                    have hd5n : decide (M < E) = true := by simp; omega
                    by_cases hE2 : E < b
                    · have hd6 : decide ((E : Int) < (b : Int)) = true := by simp; omega
                      have hd6n : decide (E < b) = true := by simp; omega
                      have HLT := Lib.hid (fun k hk => ((G1.out.wide (a' := 0) (b' := n) (by omega) (by omega)).lt (Nat.le_refl _) (((rot_mv (a := I) (m := m) (b := E) (by omega) (by omega) f).wide (a' := 0) (b' := n) (by omega) (by omega)).lt (Nat.le_refl _) HM.out)) k hk)
                      have HCC := Lib.hid (HC.out.sw HW.out)
                      have HS9 := Lib.hid (show Srt (rests am s ws) g1 M E ∧ Srt (rests am s ws) g1 E b ∧ LR g1 M E b from by
                        have hv := HHV.out
                        rw [HEQ2.out] at hv
                        obtain ⟨v1, v2, v3, v4, v5, v6, v7⟩ := hv
                        refine ⟨v4.of_out fun k h1 h2 => G1.out.out k (.inr h1), v5.of_out fun k h1 h2 => G1.out.out k (.inr (by omega)), fun i j i1 i2 i3 i4 => ?_⟩
                        rw [G1.out.out i (.inr i1), G1.out.out j (.inr (by omega))]
                        exact v6 i j i1 i2 i3 i4)
                      have HCALL := Lib.hid (IH.out M E b _ g1 (by omega) hE1 hE2 hbn HCC.out (SW.start HW.out.res) HLT.out HS9.out.1 HS9.out.2.1 HS9.out.2.2)
                      go_wp2_with (go_at_call 202; refine HCALL.out.mono ?_; rintro e w6 ⟨rfl, g2, hs, hm2, ht2⟩)
                      go_wp2
                      go_end0
                      have hv := HHV.out
                      rw [HEQ2.out] at hv
                      obtain ⟨v1, v2, v3, v4, v5, v6, v7⟩ := hv
                      have hmv := rot_mv (a := I) (m := m) (b := E) (by omega) (by omega) f
                      obtain ⟨j1, j2⟩ := halves_join v7 (by omega) (by omega) G1.out T1.out (g2 := g2) (hm2) (ht2)
                      exact ⟨rfl, g2, HW.out.trans hs, (hmv.wide (by omega) (by omega)).trans j2, j1⟩
                    · have hd6 : decide ((E : Int) < (b : Int)) = false := by simp; omega
                      have hd6n : decide (E < b) = false := by simp; omega
                      have HEB := Lib.hid (show E = b by omega)
                      go_wp2
                      go_end0
                      have hv := HHV.out
                      rw [HEQ2.out] at hv
                      obtain ⟨v1, v2, v3, v4, v5, v6, v7⟩ := hv
                      have hmv := rot_mv (a := I) (m := m) (b := E) (by omega) (by omega) f
                      obtain ⟨j1, j2⟩ := halves_join v7 (by omega) (by omega) G1.out T1.out (g2 := g1) (Mv.refl _ _ _) ((v4.sub (Nat.le_refl _) (by have := HEB.out; omega)).of_out fun k h1 h2 => G1.out.out k (.inr h1))
                      exact ⟨rfl, g1, HW.out, (hmv.wide (by omega) (by omega)).trans j2, j1⟩
                  · have hd5 : decide ((M : Int) < (E : Int)) = false := by simp; omega
                    have hd5n : decide (M < E) = false := by simp; omega
                    have HEM := Lib.hid (show E = M by omega)
                    go_wp2
                    go_end0
                    have hv := HHV.out
                    rw [HEQ2.out] at hv
                    obtain ⟨v1, v2, v3, v4, v5, v6, v7⟩ := hv
                    have hmv := rot_mv (a := I) (m := m) (b := E) (by omega) (by omega) f
                    obtain ⟨j1, j2⟩ := halves_join v7 (by omega) (by omega) G1.out T1.out (g2 := g1) (Mv.refl _ _ _) ((v5.sub (by have := HEM.out; omega) (Nat.le_refl _)).of_out fun k h1 h2 => G1.out.out k (.inr h1))
                    exact ⟨rfl, g1, HW.out, (hmv.wide (by omega) (by omega)).trans j2, j1⟩
                · have hd4 : decide ((I : Int) < (M : Int)) = false := by simp; omega
                  have hd4n : decide (I < M) = false := by simp; omega
                  go_upto_region 43 with fail
                  obtain ⟨g1, hg1⟩ : ∃ g1, g1 = rotF I m E f := ⟨_, rfl⟩
                  have G1 := Lib.hid (show Mv a M (rotF I m E f) g1 by rw [hg1]; exact Mv.refl _ _ _)
                  have T1 := Lib.hid (show Srt (rests am s ws) g1 a M from by
                    have hv := HHV.out
                    rw [HEQ2.out] at hv
                    obtain ⟨v1, v2, v3, v4, v5, v6, v7⟩ := hv
                    rw [hg1]
                    exact v1.sub (Nat.le_refl _) (by omega))
                  replace HW := Lib.hid (show SW B w _ g n c g1 by rw [hg1]; exact HW.out)
                  clear hg1 hd3 hd3n hd4 hd4n
                  by_cases hE1 : M < E
                  · have hd5 : decide ((M : Int) < (E : Int)) = true := by simp; omega
                    have hd5n : decide (M < E) = true := by simp; omega
                    by_cases hE2 : E < b
                    · have hd6 : decide ((E : Int) < (b : Int)) = true := by simp; omega
                      have hd6n : decide (E < b) = true := by simp; omega
                      have HLT := Lib.hid (fun k hk => ((G1.out.wide (a' := 0) (b' := n) (by omega) (by omega)).lt (Nat.le_refl _) (((rot_mv (a := I) (m := m) (b := E) (by omega) (by omega) f).wide (a' := 0) (b' := n) (by omega) (by omega)).lt (Nat.le_refl _) HM.out)) k hk)
                      have HCC := Lib.hid (HC.out.sw HW.out)
                      have HS9 := Lib.hid (show Srt (rests am s ws) g1 M E ∧ Srt (rests am s ws) g1 E b ∧ LR g1 M E b from by
                        have hv := HHV.out
                        rw [HEQ2.out] at hv
                        obtain ⟨v1, v2, v3, v4, v5, v6, v7⟩ := hv
                        refine ⟨v4.of_out fun k h1 h2 => G1.out.out k (.inr h1), v5.of_out fun k h1 h2 => G1.out.out k (.inr (by omega)), fun i j i1 i2 i3 i4 => ?_⟩
                        rw [G1.out.out i (.inr i1), G1.out.out j (.inr (by omega))]
                        exact v6 i j i1 i2 i3 i4)
                      have HCALL := Lib.hid (IH.out M E b _ g1 (by omega) hE1 hE2 hbn HCC.out (SW.start HW.out.res) HLT.out HS9.out.1 HS9.out.2.1 HS9.out.2.2)
                      go_wp2_with (go_at_call 202; refine HCALL.out.mono ?_; rintro e w6 ⟨rfl, g2, hs, hm2, ht2⟩)
                      go_wp2
                      go_end0
                      have hv := HHV.out
                      rw [HEQ2.out] at hv
                      obtain ⟨v1, v2, v3, v4, v5, v6, v7⟩ := hv
                      have hmv := rot_mv (a := I) (m := m) (b := E) (by omega) (by omega) f
                      obtain ⟨j1, j2⟩ := halves_join v7 (by omega) (by omega) G1.out T1.out (g2 := g2) (hm2) (ht2)
                      exact ⟨rfl, g2, HW.out.trans hs, (hmv.wide (by omega) (by omega)).trans j2, j1⟩
                    · have hd6 : decide ((E : Int) < (b : Int)) = false := by simp; omega
                      have hd6n : decide (E < b) = false := by simp; omega
                      have HEB := Lib.hid (show E = b by omega)
                      go_wp2
                      go_end0
                      have hv := HHV.out
                      rw [HEQ2.out] at hv
                      obtain ⟨v1, v2, v3, v4, v5, v6, v7⟩ := hv
                      have hmv := rot_mv (a := I) (m := m) (b := E) (by omega) (by omega) f
                      obtain ⟨j1, j2⟩ := halves_join v7 (by omega) (by omega) G1.out T1.out (g2 := g1) (Mv.refl _ _ _) ((v4.sub (Nat.le_refl _) (by have := HEB.out; omega)).of_out fun k h1 h2 => G1.out.out k (.inr h1))
                      exact ⟨rfl, g1, HW.out, (hmv.wide (by omega) (by omega)).trans j2, j1⟩
                  · have hd5 : decide ((M : Int) < (E : Int)) = false := by simp; omega
                    have hd5n : decide (M < E) = false := by simp; omega
                    have HEM := Lib.hid (show E = M by omega)
                    go_wp2
                    go_end0
                    have hv := HHV.out
                    rw [HEQ2.out] at hv
                    obtain ⟨v1, v2, v3, v4, v5, v6, v7⟩ := hv
                    have hmv := rot_mv (a := I) (m := m) (b := E) (by omega) (by omega) f
                    obtain ⟨j1, j2⟩ := halves_join v7 (by omega) (by omega) G1.out T1.out (g2 := g1) (Mv.refl _ _ _) ((v5.sub (by have := HEM.out; omega) (Nat.le_refl _)).of_out fun k h1 h2 => G1.out.out k (.inr h1))
                    exact ⟨rfl, g1, HW.out, (hmv.wide (by omega) (by omega)).trans j2, j1⟩
              · have hd3 : decide ((a : Int) < (I : Int)) = false := by simp; omega
                have hd3n : decide (a < I) = false := by simp; omega
                go_upto_region 43 with fail
                obtain ⟨g1, hg1⟩ : ∃ g1, g1 = rotF I m E f := ⟨_, rfl⟩
                have G1 := Lib.hid (show Mv a M (rotF I m E f) g1 by rw [hg1]; exact Mv.refl _ _ _)
                have T1 := Lib.hid (show Srt (rests am s ws) g1 a M from by
                  have hv := HHV.out
                  rw [HEQ2.out] at hv
                  obtain ⟨v1, v2, v3, v4, v5, v6, v7⟩ := hv
                  rw [hg1]
                  exact v2.sub (by omega) (Nat.le_refl _))
                replace HW := Lib.hid (show SW B w _ g n c g1 by rw [hg1]; exact HW.out)
                clear hg1 hd3 hd3n
                by_cases hE1 : M < E
                · have hd5 : decide ((M : Int) < (E : Int)) = true := by simp; omega
                  have hd5n : decide (M < E) = true := by simp; omega
                  by_cases hE2 : E < b
                  · have hd6 : decide ((E : Int) < (b : Int)) = true := by simp; omega
                    have hd6n : decide (E < b) = true := by simp; omega
                    have HLT := Lib.hid (fun k hk => ((G1.out.wide (a' := 0) (b' := n) (by omega) (by omega)).lt (Nat.le_refl _) (((rot_mv (a := I) (m := m) (b := E) (by omega) (by omega) f).wide (a' := 0) (b' := n) (by omega) (by omega)).lt (Nat.le_refl _) HM.out)) k hk)
                    have HCC := Lib.hid (HC.out.sw HW.out)
                    have HS9 := Lib.hid (show Srt (rests am s ws) g1 M E ∧ Srt (rests am s ws) g1 E b ∧ LR g1 M E b from by
                      have hv := HHV.out
                      rw [HEQ2.out] at hv
                      obtain ⟨v1, v2, v3, v4, v5, v6, v7⟩ := hv
                      refine ⟨v4.of_out fun k h1 h2 => G1.out.out k (.inr h1), v5.of_out fun k h1 h2 => G1.out.out k (.inr (by omega)), fun i j i1 i2 i3 i4 => ?_⟩
                      rw [G1.out.out i (.inr i1), G1.out.out j (.inr (by omega))]
                      exact v6 i j i1 i2 i3 i4)
                    have HCALL := Lib.hid (IH.out M E b _ g1 (by omega) hE1 hE2 hbn HCC.out (SW.start HW.out.res) HLT.out HS9.out.1 HS9.out.2.1 HS9.out.2.2)
                    go_wp2_with (go_at_call 202; refine HCALL.out.mono ?_; rintro e w6 ⟨rfl, g2, hs, hm2, ht2⟩)
                    go_wp2
                    go_end0
                    have hv := HHV.out
                    rw [HEQ2.out] at hv
                    obtain ⟨v1, v2, v3, v4, v5, v6, v7⟩ := hv
                    have hmv := rot_mv (a := I) (m := m) (b := E) (by omega) (by omega) f
                    obtain ⟨j1, j2⟩ := halves_join v7 (by omega) (by omega) G1.out T1.out (g2 := g2) (hm2) (ht2)
                    exact ⟨rfl, g2, HW.out.trans hs, (hmv.wide (by omega) (by omega)).trans j2, j1⟩
                  · have hd6 : decide ((E : Int) < (b : Int)) = false := by simp; omega
                    have hd6n : decide (E < b) = false := by simp; omega
                    have HEB := Lib.hid (show E = b by omega)
                    go_wp2
                    go_end0
                    have hv := HHV.out
                    rw [HEQ2.out] at hv
                    obtain ⟨v1, v2, v3, v4, v5, v6, v7⟩ := hv
                    have hmv := rot_mv (a := I) (m := m) (b := E) (by omega) (by omega) f
                    obtain ⟨j1, j2⟩ := halves_join v7 (by omega) (by omega) G1.out T1.out (g2 := g1) (Mv.refl _ _ _) ((v4.sub (Nat.le_refl _) (by have := HEB.out; omega)).of_out fun k h1 h2 => G1.out.out k (.inr h1))
                    exact ⟨rfl, g1, HW.out, (hmv.wide (by omega) (by omega)).trans j2, j1⟩
                · have hd5 : decide ((M : Int) < (E : Int)) = false := by simp; omega
                  have hd5n : decide (M < E) = false := by simp; omega
                  have HEM := Lib.hid (show E = M by omega)
                  go_wp2
                  go_end0
                  have hv := HHV.out
                  rw [HEQ2.out] at hv
                  obtain ⟨v1, v2, v3, v4, v5, v6, v7⟩ := hv
                  have hmv := rot_mv (a := I) (m := m) (b := E) (by omega) (by omega) f
                  obtain ⟨j1, j2⟩ := halves_join v7 (by omega) (by omega) G1.out T1.out (g2 := g1) (Mv.refl _ _ _) ((v5.sub (by have := HEM.out; omega) (Nat.le_refl _)).of_out fun k h1 h2 => G1.out.out k (.inr h1))
                  exact ⟨rfl, g1, HW.out, (hmv.wide (by omega) (by omega)).trans j2, j1⟩
            · have hd2 : decide ((m : Int) < (E : Int)) = false := by simp; omega
              have hd2n : decide (m < E) = false := by simp; omega
              go_upto_region 41 with fail
              replace HW := Lib.hid (show SW B w _ g n c (rotF I m E f) by rw [rot_none (.inr (by omega)) (by omega) (by omega)]; exact HW.out)
              clear hd1 hd1n hd2 hd2n
              by_cases hI1 : a < I
              · have hd3 : decide ((a : Int) < (I : Int)) = true := by simp; omega
                have hd3n : decide (a < I) = true := by simp; omega
                by_cases hI2 : I < M
                · have hd4 : decide ((I : Int) < (M : Int)) = true := by simp; omega
                  have hd4n : decide (I < M) = true := by simp; omega
                  have HLT := Lib.hid (fun k hk => (((rot_mv (a := I) (m := m) (b := E) (by omega) (by omega) f).wide (a' := 0) (b' := n) (by omega) (by omega)).lt (Nat.le_refl _) HM.out) k hk)
                  have HCC := Lib.hid (HC.out.sw HW.out)
                  have HS9 := Lib.hid (show Srt (rests am s ws) (rotF I m E f) a I ∧ Srt (rests am s ws) (rotF I m E f) I M ∧ LR (rotF I m E f) a I M from by
                    have hv := HHV.out
                    rw [HEQ2.out] at hv
                    obtain ⟨v1, v2, v3, v4, v5, v6, v7⟩ := hv
                    exact ⟨v1, v2, v3⟩)
                  have HCALL := Lib.hid (IH.out a I M _ (rotF I m E f) (by omega) hI1 hI2 (by omega) HCC.out (SW.start HW.out.res) HLT.out HS9.out.1 HS9.out.2.1 HS9.out.2.2)
                  go_upto_region 43 with (go_at_call 202; refine HCALL.out.mono ?_; rintro e w5 ⟨rfl, g1, hs, hm2, ht2⟩)
                  have G1 := Lib.hid hm2
                  have T1 := Lib.hid ht2
                  replace HW := Lib.hid (HW.out.trans hs)
                  clear hm2 ht2 hs HCALL HS9 HLT HCC hd3 hd3n hd4 hd4n
                  by_cases hE1 : M < E
                  · have hd5 : decide ((M : Int) < (E : Int)) = true := by simp; omega
                    have hd5n : decide (M < E) = true := by simp; omega
                    by_cases hE2 : E < b
                    · have hd6 : decide ((E : Int) < (b : Int)) = true := by simp; omega
                      have hd6n : decide (E < b) = true := by simp; omega
                      have HLT := Lib.hid (fun k hk => ((G1.out.wide (a' := 0) (b' := n) (by omega) (by omega)).lt (Nat.le_refl _) (((rot_mv (a := I) (m := m) (b := E) (by omega) (by omega) f).wide (a' := 0) (b' := n) (by omega) (by omega)).lt (Nat.le_refl _) HM.out)) k hk)
                      have HCC := Lib.hid (HC.out.sw HW.out)
                      have HS9 := Lib.hid (show Srt (rests am s ws) g1 M E ∧ Srt (rests am s ws) g1 E b ∧ LR g1 M E b from by
                        have hv := HHV.out
                        rw [HEQ2.out] at hv
                        obtain ⟨v1, v2, v3, v4, v5, v6, v7⟩ := hv
                        refine ⟨v4.of_out fun k h1 h2 => G1.out.out k (.inr h1), v5.of_out fun k h1 h2 => G1.out.out k (.inr (by omega)), fun i j i1 i2 i3 i4 => ?_⟩
                        rw [G1.out.out i (.inr i1), G1.out.out j (.inr (by omega))]
                        exact v6 i j i1 i2 i3 i4)
                      have HCALL := Lib.hid (IH.out M E b _ g1 (by omega) hE1 hE2 hbn HCC.out (SW.start HW.out.res) HLT.out HS9.out.1 HS9.out.2.1 HS9.out.2.2)
                      go_wp2_with (go_at_call 202; refine HCALL.out.mono ?_; rintro e w6 ⟨rfl, g2, hs, hm2, ht2⟩)
                      go_wp2
                      go_end0
                      have hv := HHV.out
                      rw [HEQ2.out] at hv
                      obtain ⟨v1, v2, v3, v4, v5, v6, v7⟩ := hv
                      have hmv := rot_mv (a := I) (m := m) (b := E) (by omega) (by omega) f
                      obtain ⟨j1, j2⟩ := halves_join v7 (by omega) (by omega) G1.out T1.out (g2 := g2) (hm2) (ht2)
                      exact ⟨rfl, g2, HW.out.trans hs, (hmv.wide (by omega) (by omega)).trans j2, j1⟩
                    · have hd6 : decide ((E : Int) < (b : Int)) = false := by simp; omega
                      have hd6n : decide (E < b) = false := by simp; omega
                      have HEB := Lib.hid (show E = b by omega)
                      go_wp2
                      go_end0
                      have hv := HHV.out
                      rw [HEQ2.out] at hv
                      obtain ⟨v1, v2, v3, v4, v5, v6, v7⟩ := hv
                      have hmv := rot_mv (a := I) (m := m) (b := E) (by omega) (by omega) f
                      obtain ⟨j1, j2⟩ := halves_join v7 (by omega) (by omega) G1.out T1.out (g2 := g1) (Mv.refl _ _ _) ((v4.sub (Nat.le_refl _) (by have := HEB.out; omega)).of_out fun k h1 h2 => G1.out.out k (.inr h1))
                      exact ⟨rfl, g1, HW.out, (hmv.wide (by omega) (by omega)).trans j2, j1⟩
                  · have hd5 : decide ((M : Int) < (E : Int)) = false := by simp; omega
                    have hd5n : decide (M < E) = false := by simp; omega
                    have HEM := Lib.hid (show E = M by omega)
                    go_wp2
                    go_end0
                    have hv := HHV.out
                    rw [HEQ2.out] at hv
                    obtain ⟨v1, v2, v3, v4, v5, v6, v7⟩ := hv
                    have hmv := rot_mv (a := I) (m := m) (b := E) (by omega) (by omega) f
                    obtain ⟨j1, j2⟩ := halves_join v7 (by omega) (by omega) G1.out T1.out (g2 := g1) (Mv.refl _ _ _) ((v5.sub (by have := HEM.out; omega) (Nat.le_refl _)).of_out fun k h1 h2 => G1.out.out k (.inr h1))
                    exact ⟨rfl, g1, HW.out, (hmv.wide (by omega) (by omega)).trans j2, j1⟩
                · have hd4 : decide ((I : Int) < (M : Int)) = false := by simp; omega
                  have hd4n : decide (I < M) = false := by simp; omega
                  go_upto_region 43 with fail
                  obtain ⟨g1, hg1⟩ : ∃ g1, g1 = rotF I m E f := ⟨_, rfl⟩
                  have G1 := Lib.hid (show Mv a M (rotF I m E f) g1 by rw [hg1]; exact Mv.refl _ _ _)
                  have T1 := Lib.hid (show Srt (rests am s ws) g1 a M from by
                    have hv := HHV.out
                    rw [HEQ2.out] at hv
                    obtain ⟨v1, v2, v3, v4, v5, v6, v7⟩ := hv
                    rw [hg1]
                    exact v1.sub (Nat.le_refl _) (by omega))
                  replace HW := Lib.hid (show SW B w _ g n c g1 by rw [hg1]; exact HW.out)
                  clear hg1 hd3 hd3n hd4 hd4n
                  by_cases hE1 : M < E
                  · have hd5 : decide ((M : Int) < (E : Int)) = true := by simp; omega
                    have hd5n : decide (M < E) = true := by simp; omega
                    by_cases hE2 : E < b
                    · have hd6 : decide ((E : Int) < (b : Int)) = true := by simp; omega
                      have hd6n : decide (E < b) = true := by simp; omega
                      have HLT := Lib.hid (fun k hk => ((G1.out.wide (a' := 0) (b' := n) (by omega) (by omega)).lt (Nat.le_refl _) (((rot_mv (a := I) (m := m) (b := E) (by omega) (by omega) f).wide (a' := 0) (b' := n) (by omega) (by omega)).lt (Nat.le_refl _) HM.out)) k hk)
                      have HCC := Lib.hid (HC.out.sw HW.out)
                      have HS9 := Lib.hid (show Srt (rests am s ws) g1 M E ∧ Srt (rests am s ws) g1 E b ∧ LR g1 M E b from by
                        have hv := HHV.out
                        rw [HEQ2.out] at hv
                        obtain ⟨v1, v2, v3, v4, v5, v6, v7⟩ := hv
                        refine ⟨v4.of_out fun k h1 h2 => G1.out.out k (.inr h1), v5.of_out fun k h1 h2 => G1.out.out k (.inr (by omega)), fun i j i1 i2 i3 i4 => ?_⟩
                        rw [G1.out.out i (.inr i1), G1.out.out j (.inr (by omega))]
                        exact v6 i j i1 i2 i3 i4)
                      have HCALL := Lib.hid (IH.out M E b _ g1 (by omega) hE1 hE2 hbn HCC.out (SW.start HW.out.res) HLT.out HS9.out.1 HS9.out.2.1 HS9.out.2.2)
                      go_wp2_with (go_at_call 202; refine HCALL.out.mono ?_; rintro e w6 ⟨rfl, g2, hs, hm2, ht2⟩)
                      go_wp2
                      go_end0
                      have hv := HHV.out
                      rw [HEQ2.out] at hv
                      obtain ⟨v1, v2, v3, v4, v5, v6, v7⟩ := hv
                      have hmv := rot_mv (a := I) (m := m) (b := E) (by omega) (by omega) f
                      obtain ⟨j1, j2⟩ := halves_join v7 (by omega) (by omega) G1.out T1.out (g2 := g2) (hm2) (ht2)
                      exact ⟨rfl, g2, HW.out.trans hs, (hmv.wide (by omega) (by omega)).trans j2, j1⟩
                    · have hd6 : decide ((E : Int) < (b : Int)) = false := by simp; omega
                      have hd6n : decide (E < b) = false := by simp; omega
                      have HEB := Lib.hid (show E = b by omega)
                      go_wp2
                      go_end0
                      have hv := HHV.out
                      rw [HEQ2.out] at hv
                      obtain ⟨v1, v2, v3, v4, v5, v6, v7⟩ := hv
                      have hmv := rot_mv (a := I) (m := m) (b := E) (by omega) (by omega) f
                      obtain ⟨j1, j2⟩ := halves_join v7 (by omega) (by omega) G1.out T1.out (g2 := g1) (Mv.refl _ _ _) ((v4.sub (Nat.le_refl _) (by have := HEB.out; omega)).of_out fun k h1 h2 => G1.out.out k (.inr h1))
                      exact ⟨rfl, g1, HW.out, (hmv.wide (by omega) (by omega)).trans j2, j1⟩
                  · have hd5 : decide ((M : Int) < (E : Int)) = false := by simp; omega
                    have hd5n : decide (M < E) = false := by simp; omega
                    have HEM := Lib.hid (show E = M by omega)
                    go_wp2
                    go_end0
                    have hv := HHV.out
                    rw [HEQ2.out] at hv
                    obtain ⟨v1, v2, v3, v4, v5, v6, v7⟩ := hv
                    have hmv := rot_mv (a := I) (m := m) (b := E) (by omega) (by omega) f
                    obtain ⟨j1, j2⟩ := halves_join v7 (by omega) (by omega) G1.out T1.out (g2 := g1) (Mv.refl _ _ _) ((v5.sub (by have := HEM.out; omega) (Nat.le_refl _)).of_out fun k h1 h2 => G1.out.out k (.inr h1))
                    exact ⟨rfl, g1, HW.out, (hmv.wide (by omega) (by omega)).trans j2, j1⟩
              · have hd3 : decide ((a : Int) < (I : Int)) = false := by simp; omega
                have hd3n : decide (a < I) = false := by simp; omega
                go_upto_region 43 with fail
                obtain ⟨g1, hg1⟩ : ∃ g1, g1 = rotF I m E f := ⟨_, rfl⟩
                have G1 := Lib.hid (show Mv a M (rotF I m E f) g1 by rw [hg1]; exact Mv.refl _ _ _)
                have T1 := Lib.hid (show Srt (rests am s ws) g1 a M from by
                  have hv := HHV.out
                  rw [HEQ2.out] at hv
                  obtain ⟨v1, v2, v3, v4, v5, v6, v7⟩ := hv
                  rw [hg1]
                  exact v2.sub (by omega) (Nat.le_refl _))
                replace HW := Lib.hid (show SW B w _ g n c g1 by rw [hg1]; exact HW.out)
                clear hg1 hd3 hd3n
                by_cases hE1 : M < E
                · have hd5 : decide ((M : Int) < (E : Int)) = true := by simp; omega
                  have hd5n : decide (M < E) = true := by simp; omega
                  by_cases hE2 : E < b
                  · have hd6 : decide ((E : Int) < (b : Int)) = true := by simp; omega
                    have hd6n : decide (E < b) = true := by simp; omega
                    have HLT := Lib.hid (fun k hk => ((G1.out.wide (a' := 0) (b' := n) (by omega) (by omega)).lt (Nat.le_refl _) (((rot_mv (a := I) (m := m) (b := E) (by omega) (by omega) f).wide (a' := 0) (b' := n) (by omega) (by omega)).lt (Nat.le_refl _) HM.out)) k hk)
                    have HCC := Lib.hid (HC.out.sw HW.out)
                    have HS9 := Lib.hid (show Srt (rests am s ws) g1 M E ∧ Srt (rests am s ws) g1 E b ∧ LR g1 M E b from by
                      have hv := HHV.out
                      rw [HEQ2.out] at hv
                      obtain ⟨v1, v2, v3, v4, v5, v6, v7⟩ := hv
                      refine ⟨v4.of_out fun k h1 h2 => G1.out.out k (.inr h1), v5.of_out fun k h1 h2 => G1.out.out k (.inr (by omega)), fun i j i1 i2 i3 i4 => ?_⟩
                      rw [G1.out.out i (.inr i1), G1.out.out j (.inr (by omega))]
                      exact v6 i j i1 i2 i3 i4)
                    have HCALL := Lib.hid (IH.out M E b _ g1 (by omega) hE1 hE2 hbn HCC.out (SW.start HW.out.res) HLT.out HS9.out.1 HS9.out.2.1 HS9.out.2.2)
                    go_wp2_with (go_at_call 202; refine HCALL.out.mono ?_; rintro e w6 ⟨rfl, g2, hs, hm2, ht2⟩)
                    go_wp2
                    go_end0
                    have hv := HHV.out
                    rw [HEQ2.out] at hv
                    obtain ⟨v1, v2, v3, v4, v5, v6, v7⟩ := hv
                    have hmv := rot_mv (a := I) (m := m) (b := E) (by omega) (by omega) f
                    obtain ⟨j1, j2⟩ := halves_join v7 (by omega) (by omega) G1.out T1.out (g2 := g2) (hm2) (ht2)
                    exact ⟨rfl, g2, HW.out.trans hs, (hmv.wide (by omega) (by omega)).trans j2, j1⟩
                  · have hd6 : decide ((E : Int) < (b : Int)) = false := by simp; omega
                    have hd6n : decide (E < b) = false := by simp; omega
                    have HEB := Lib.hid (show E = b by omega)
                    go_wp2
                    go_end0
                    have hv := HHV.out
                    rw [HEQ2.out] at hv
                    obtain ⟨v1, v2, v3, v4, v5, v6, v7⟩ := hv
                    have hmv := rot_mv (a := I) (m := m) (b := E) (by omega) (by omega) f
                    obtain ⟨j1, j2⟩ := halves_join v7 (by omega) (by omega) G1.out T1.out (g2 := g1) (Mv.refl _ _ _) ((v4.sub (Nat.le_refl _) (by have := HEB.out; omega)).of_out fun k h1 h2 => G1.out.out k (.inr h1))
                    exact ⟨rfl, g1, HW.out, (hmv.wide (by omega) (by omega)).trans j2, j1⟩
                · have hd5 : decide ((M : Int) < (E : Int)) = false := by simp; omega
                  have hd5n : decide (M < E) = false := by simp; omega
                  have HEM := Lib.hid (show E = M by omega)
                  go_wp2
                  go_end0
                  have hv := HHV.out
                  rw [HEQ2.out] at hv
                  obtain ⟨v1, v2, v3, v4, v5, v6, v7⟩ := hv
                  have hmv := rot_mv (a := I) (m := m) (b := E) (by omega) (by omega) f
                  obtain ⟨j1, j2⟩ := halves_join v7 (by omega) (by omega) G1.out T1.out (g2 := g1) (Mv.refl _ _ _) ((v5.sub (by have := HEM.out; omega) (Nat.le_refl _)).of_out fun k h1 h2 => G1.out.out k (.inr h1))
                  exact ⟨rfl, g1, HW.out, (hmv.wide (by omega) (by omega)).trans j2, j1⟩
          · have hd1 : decide ((I : Int) < (m : Int)) = false := by simp; omega
            have hd1n : decide (I < m) = false := by simp; omega
            go_upto_region 41 with fail
            replace HW := Lib.hid (show SW B w _ g n c (rotF I m E f) by rw [rot_none (.inl (by omega)) (by omega) (by omega)]; exact HW.out)
            clear hd1 hd1n
            by_cases hI1 : a < I
            · have hd3 : decide ((a : Int) < (I : Int)) = true := by simp; omega
              have hd3n : decide (a < I) = true := by simp; omega
              by_cases hI2 : I < M
              · have hd4 : decide ((I : Int) < (M : Int)) = true := by simp; omega
                have hd4n : decide (I < M) = true := by simp; omega
                have HLT := Lib.hid (fun k hk => (((rot_mv (a := I) (m := m) (b := E) (by omega) (by omega) f).wide (a' := 0) (b' := n) (by omega) (by omega)).lt (Nat.le_refl _) HM.out) k hk)
                have HCC := Lib.hid (HC.out.sw HW.out)
                have HS9 := Lib.hid (show Srt (rests am s ws) (rotF I m E f) a I ∧ Srt (rests am s ws) (rotF I m E f) I M ∧ LR (rotF I m E f) a I M from by
                  have hv := HHV.out
                  rw [HEQ2.out] at hv
                  obtain ⟨v1, v2, v3, v4, v5, v6, v7⟩ := hv
                  exact ⟨v1, v2, v3⟩)
                have HCALL := Lib.hid (IH.out a I M _ (rotF I m E f) (by omega) hI1 hI2 (by omega) HCC.out (SW.start HW.out.res) HLT.out HS9.out.1 HS9.out.2.1 HS9.out.2.2)
                go_upto_region 43 with (go_at_call 202; refine HCALL.out.mono ?_; rintro e w5 ⟨rfl, g1, hs, hm2, ht2⟩)
                have G1 := Lib.hid hm2
                have T1 := Lib.hid ht2
                replace HW := Lib.hid (HW.out.trans hs)
                clear hm2 ht2 hs HCALL HS9 HLT HCC hd3 hd3n hd4 hd4n
                by_cases hE1 : M < E
                · have hd5 : decide ((M : Int) < (E : Int)) = true := by simp; omega
                  have hd5n : decide (M < E) = true := by simp; omega
                  by_cases hE2 : E < b
                  · have hd6 : decide ((E : Int) < (b : Int)) = true := by simp; omega
                    have hd6n : decide (E < b) = true := by simp; omega
                    have HLT := Lib.hid (fun k hk => ((G1.out.wide (a' := 0) (b' := n) (by omega) (by omega)).lt (Nat.le_refl _) (((rot_mv (a := I) (m := m) (b := E) (by omega) (by omega) f).wide (a' := 0) (b' := n) (by omega) (by omega)).lt (Nat.le_refl _) HM.out)) k hk)
                    have HCC := Lib.hid (HC.out.sw HW.out)
                    have HS9 := Lib.hid (show Srt (rests am s ws) g1 M E ∧ Srt (rests am s ws) g1 E b ∧ LR g1 M E b from by
                      have hv := HHV.out
                      rw [HEQ2.out] at hv
                      obtain ⟨v1, v2, v3, v4, v5, v6, v7⟩ := hv
                      refine ⟨v4.of_out fun k h1 h2 => G1.out.out k (.inr h1), v5.of_out fun k h1 h2 => G1.out.out k (.inr (by omega)), fun i j i1 i2 i3 i4 => ?_⟩
                      rw [G1.out.out i (.inr i1), G1.out.out j (.inr (by omega))]
                      exact v6 i j i1 i2 i3 i4)
                    have HCALL := Lib.hid (IH.out M E b _ g1 (by omega) hE1 hE2 hbn HCC.out (SW.start HW.out.res) HLT.out HS9.out.1 HS9.out.2.1 HS9.out.2.2)
                    go_wp2_with (go_at_call 202; refine HCALL.out.mono ?_; rintro e w6 ⟨rfl, g2, hs, hm2, ht2⟩)
                    go_wp2
                    go_end0
                    have hv := HHV.out
                    rw [HEQ2.out] at hv
                    obtain ⟨v1, v2, v3, v4, v5, v6, v7⟩ := hv
                    have hmv := rot_mv (a := I) (m := m) (b := E) (by omega) (by omega) f
                    obtain ⟨j1, j2⟩ := halves_join v7 (by omega) (by omega) G1.out T1.out (g2 := g2) (hm2) (ht2)
                    exact ⟨rfl, g2, HW.out.trans hs, (hmv.wide (by omega) (by omega)).trans j2, j1⟩
                  · have hd6 : decide ((E : Int) < (b : Int)) = false := by simp; omega
                    have hd6n : decide (E < b) = false := by simp; omega
                    have HEB := Lib.hid (show E = b by omega)
                    go_wp2
                    go_end0
                    have hv := HHV.out
                    rw [HEQ2.out] at hv
                    obtain ⟨v1, v2, v3, v4, v5, v6, v7⟩ := hv
                    have hmv := rot_mv (a := I) (m := m) (b := E) (by omega) (by omega) f
                    obtain ⟨j1, j2⟩ := halves_join v7 (by omega) (by omega) G1.out T1.out (g2 := g1) (Mv.refl _ _ _) ((v4.sub (Nat.le_refl _) (by have := HEB.out; omega)).of_out fun k h1 h2 => G1.out.out k (.inr h1))
                    exact ⟨rfl, g1, HW.out, (hmv.wide (by omega) (by omega)).trans j2, j1⟩
                · have hd5 : decide ((M : Int) < (E : Int)) = false := by simp; omega
                  have hd5n : decide (M < E) = false := by simp; omega
                  have HEM := Lib.hid (show E = M by omega)
                  go_wp2
                  go_end0
                  have hv := HHV.out
                  rw [HEQ2.out] at hv
                  obtain ⟨v1, v2, v3, v4, v5, v6, v7⟩ := hv
                  have hmv := rot_mv (a := I) (m := m) (b := E) (by omega) (by omega) f
                  obtain ⟨j1, j2⟩ := halves_join v7 (by omega) (by omega) G1.out T1.out (g2 := g1) (Mv.refl _ _ _) ((v5.sub (by have := HEM.out; omega) (Nat.le_refl _)).of_out fun k h1 h2 => G1.out.out k (.inr h1))
                  exact ⟨rfl, g1, HW.out, (hmv.wide (by omega) (by omega)).trans j2, j1⟩
              · have hd4 : decide ((I : Int) < (M : Int)) = false := by simp; omega
                have hd4n : decide (I < M) = false := by simp; omega
                go_upto_region 43 with fail
                obtain ⟨g1, hg1⟩ : ∃ g1, g1 = rotF I m E f := ⟨_, rfl⟩
                have G1 := Lib.hid (show Mv a M (rotF I m E f) g1 by rw [hg1]; exact Mv.refl _ _ _)
                have T1 := Lib.hid (show Srt (rests am s ws) g1 a M from by
                  have hv := HHV.out
                  rw [HEQ2.out] at hv
                  obtain ⟨v1, v2, v3, v4, v5, v6, v7⟩ := hv
                  rw [hg1]
                  exact v1.sub (Nat.le_refl _) (by omega))
                replace HW := Lib.hid (show SW B w _ g n c g1 by rw [hg1]; exact HW.out)
                clear hg1 hd3 hd3n hd4 hd4n
                by_cases hE1 : M < E
                · have hd5 : decide ((M : Int) < (E : Int)) = true := by simp; omega
                  have hd5n : decide (M < E) = true := by simp; omega
                  by_cases hE2 : E < b
                  · have hd6 : decide ((E : Int) < (b : Int)) = true := by simp; omega
                    have hd6n : decide (E < b) = true := by simp; omega
                    have HLT := Lib.hid (fun k hk => ((G1.out.wide (a' := 0) (b' := n) (by omega) (by omega)).lt (Nat.le_refl _) (((rot_mv (a := I) (m := m) (b := E) (by omega) (by omega) f).wide (a' := 0) (b' := n) (by omega) (by omega)).lt (Nat.le_refl _) HM.out)) k hk)
                    have HCC := Lib.hid (HC.out.sw HW.out)
                    have HS9 := Lib.hid (show Srt (rests am s ws) g1 M E ∧ Srt (rests am s ws) g1 E b ∧ LR g1 M E b from by
                      have hv := HHV.out
                      rw [HEQ2.out] at hv
                      obtain ⟨v1, v2, v3, v4, v5, v6, v7⟩ := hv
                      refine ⟨v4.of_out fun k h1 h2 => G1.out.out k (.inr h1), v5.of_out fun k h1 h2 => G1.out.out k (.inr (by omega)), fun i j i1 i2 i3 i4 => ?_⟩
                      rw [G1.out.out i (.inr i1), G1.out.out j (.inr (by omega))]
                      exact v6 i j i1 i2 i3 i4)
                    have HCALL := Lib.hid (IH.out M E b _ g1 (by omega) hE1 hE2 hbn HCC.out (SW.start HW.out.res) HLT.out HS9.out.1 HS9.out.2.1 HS9.out.2.2)
                    go_wp2_with (go_at_call 202; refine HCALL.out.mono ?_; rintro e w6 ⟨rfl, g2, hs, hm2, ht2⟩)
                    go_wp2
                    go_end0
                    have hv := HHV.out
                    rw [HEQ2.out] at hv
                    obtain ⟨v1, v2, v3, v4, v5, v6, v7⟩ := hv
                    have hmv := rot_mv (a := I) (m := m) (b := E) (by omega) (by omega) f
                    obtain ⟨j1, j2⟩ := halves_join v7 (by omega) (by omega) G1.out T1.out (g2 := g2) (hm2) (ht2)
                    exact ⟨rfl, g2, HW.out.trans hs, (hmv.wide (by omega) (by omega)).trans j2, j1⟩
                  · have hd6 : decide ((E : Int) < (b : Int)) = false := by simp; omega
                    have hd6n : decide (E < b) = false := by simp; omega
                    have HEB := Lib.hid (show E = b by omega)
                    go_wp2
                    go_end0
                    have hv := HHV.out
                    rw [HEQ2.out] at hv
                    obtain ⟨v1, v2, v3, v4, v5, v6, v7⟩ := hv
                    have hmv := rot_mv (a := I) (m := m) (b := E) (by omega) (by omega) f
                    obtain ⟨j1, j2⟩ := halves_join v7 (by omega) (by omega) G1.out T1.out (g2 := g1) (Mv.refl _ _ _) ((v4.sub (Nat.le_refl _) (by have := HEB.out; omega)).of_out fun k h1 h2 => G1.out.out k (.inr h1))
                    exact ⟨rfl, g1, HW.out, (hmv.wide (by omega) (by omega)).trans j2, j1⟩
                · have hd5 : decide ((M : Int) < (E : Int)) = false := by simp; omega
                  have hd5n : decide (M < E) = false := by simp; omega
                  have HEM := Lib.hid (show E = M by omega)
                  go_wp2
                  go_end0
                  have hv := HHV.out
                  rw [HEQ2.out] at hv
                  obtain ⟨v1, v2, v3, v4, v5, v6, v7⟩ := hv
                  have hmv := rot_mv (a := I) (m := m) (b := E) (by omega) (by omega) f
                  obtain ⟨j1, j2⟩ := halves_join v7 (by omega) (by omega) G1.out T1.out (g2 := g1) (Mv.refl _ _ _) ((v5.sub (by have := HEM.out; omega) (Nat.le_refl _)).of_out fun k h1 h2 => G1.out.out k (.inr h1))
                  exact ⟨rfl, g1, HW.out, (hmv.wide (by omega) (by omega)).trans j2, j1⟩
            · have hd3 : decide ((a : Int) < (I : Int)) = false := by simp; omega
              have hd3n : decide (a < I) = false := by simp; omega
              go_upto_region 43 with fail
              obtain ⟨g1, hg1⟩ : ∃ g1, g1 = rotF I m E f := ⟨_, rfl⟩
              have G1 := Lib.hid (show Mv a M (rotF I m E f) g1 by rw [hg1]; exact Mv.refl _ _ _)
              have T1 := Lib.hid (show Srt (rests am s ws) g1 a M from by
                have hv := HHV.out
                rw [HEQ2.out] at hv
                obtain ⟨v1, v2, v3, v4, v5, v6, v7⟩ := hv
                rw [hg1]
                exact v2.sub (by omega) (Nat.le_refl _))
              replace HW := Lib.hid (show SW B w _ g n c g1 by rw [hg1]; exact HW.out)
              clear hg1 hd3 hd3n
              by_cases hE1 : M < E
              · have hd5 : decide ((M : Int) < (E : Int)) = true := by simp; omega
                have hd5n : decide (M < E) = true := by simp; omega
                by_cases hE2 : E < b
                · have hd6 : decide ((E : Int) < (b : Int)) = true := by simp; omega
                  have hd6n : decide (E < b) = true := by simp; omega
                  have HLT := Lib.hid (fun k hk => ((G1.out.wide (a' := 0) (b' := n) (by omega) (by omega)).lt (Nat.le_refl _) (((rot_mv (a := I) (m := m) (b := E) (by omega) (by omega) f).wide (a' := 0) (b' := n) (by omega) (by omega)).lt (Nat.le_refl _) HM.out)) k hk)
                  have HCC := Lib.hid (HC.out.sw HW.out)
                  have HS9 := Lib.hid (show Srt (rests am s ws) g1 M E ∧ Srt (rests am s ws) g1 E b ∧ LR g1 M E b from by
                    have hv := HHV.out
                    rw [HEQ2.out] at hv
                    obtain ⟨v1, v2, v3, v4, v5, v6, v7⟩ := hv
                    refine ⟨v4.of_out fun k h1 h2 => G1.out.out k (.inr h1), v5.of_out fun k h1 h2 => G1.out.out k (.inr (by omega)), fun i j i1 i2 i3 i4 => ?_⟩
                    rw [G1.out.out i (.inr i1), G1.out.out j (.inr (by omega))]
                    exact v6 i j i1 i2 i3 i4)
                  have HCALL := Lib.hid (IH.out M E b _ g1 (by omega) hE1 hE2 hbn HCC.out (SW.start HW.out.res) HLT.out HS9.out.1 HS9.out.2.1 HS9.out.2.2)
                  go_wp2_with (go_at_call 202; refine HCALL.out.mono ?_; rintro e w6 ⟨rfl, g2, hs, hm2, ht2⟩)
                  go_wp2
                  go_end0
                  have hv := HHV.out
                  rw [HEQ2.out] at hv
                  obtain ⟨v1, v2, v3, v4, v5, v6, v7⟩ := hv
                  have hmv := rot_mv (a := I) (m := m) (b := E) (by omega) (by omega) f
                  obtain ⟨j1, j2⟩ := halves_join v7 (by omega) (by omega) G1.out T1.out (g2 := g2) (hm2) (ht2)
                  exact ⟨rfl, g2, HW.out.trans hs, (hmv.wide (by omega) (by omega)).trans j2, j1⟩
                · have hd6 : decide ((E : Int) < (b : Int)) = false := by simp; omega
                  have hd6n : decide (E < b) = false := by simp; omega
                  have HEB := Lib.hid (show E = b by omega)
                  go_wp2
                  go_end0
                  have hv := HHV.out
                  rw [HEQ2.out] at hv
                  obtain ⟨v1, v2, v3, v4, v5, v6, v7⟩ := hv
                  have hmv := rot_mv (a := I) (m := m) (b := E) (by omega) (by omega) f
                  obtain ⟨j1, j2⟩ := halves_join v7 (by omega) (by omega) G1.out T1.out (g2 := g1) (Mv.refl _ _ _) ((v4.sub (Nat.le_refl _) (by have := HEB.out; omega)).of_out fun k h1 h2 => G1.out.out k (.inr h1))
                  exact ⟨rfl, g1, HW.out, (hmv.wide (by omega) (by omega)).trans j2, j1⟩
              · have hd5 : decide ((M : Int) < (E : Int)) = false := by simp; omega
                have hd5n : decide (M < E) = false := by simp; omega
                have HEM := Lib.hid (show E = M by omega)
                go_wp2
                go_end0
                have hv := HHV.out
                rw [HEQ2.out] at hv
                obtain ⟨v1, v2, v3, v4, v5, v6, v7⟩ := hv
                have hmv := rot_mv (a := I) (m := m) (b := E) (by omega) (by omega) f
                obtain ⟨j1, j2⟩ := halves_join v7 (by omega) (by omega) G1.out T1.out (g2 := g1) (Mv.refl _ _ _) ((v5.sub (by have := HEM.out; omega) (Nat.le_refl _)).of_out fun k h1 h2 => G1.out.out k (.inr h1))
                exact ⟨rfl, g1, HW.out, (hmv.wide (by omega) (by omega)).trans j2, j1⟩
    · skip
      have hmd : decide ((M : Int) < (m : Int)) = false := by simp; omega
      have hmd2 : decide (M < m) = false := by simp; omega
      obtain ⟨S0, hS0⟩ : ∃ S0, S0 = a := ⟨_, rfl⟩
      have HSD := Lib.hid hS0; clear hS0
      go_upto_region 32 with fail
      go_upto_region 33 with fail
      rw [EP.out]
      go_loopw [20, 21] (fun i j wr => ∃ (I J : Nat), i = .int .i64 (I : Int) ∧ j = .int .i64 (J : Int) ∧ a ≤ I ∧ I ≤ J ∧ J ≤ m ∧ Hid (I = a ∨ ¬ Gt (rests am s ws) (f (Q - I)) (f (I - 1))) ∧ Hid (J = m ∨ Gt (rests am s ws) (f (P - J)) (f J)) ∧ Hid (SW B w wr g n c f)) (fun i j _ => (intOf j).toNat - (intOf i).toNat)
      case atStart => exact ⟨a, m, rfl, rfl, Nat.le_refl _, by have := HSD.out; have := HQD.out; omega, Nat.le_refl _, Lib.hid (.inl rfl), Lib.hid (.inl rfl), HS⟩
      case round =>
        obtain ⟨I, J, rfl, rfl, hI, hIJ, hJ, HPL, HPR, HW⟩ := hrel
        rename World => w2
        by_cases hlt : I < J
        · have hlti : (I : Int) < (J : Int) := by omega
          obtain ⟨H, hH⟩ : ∃ H, H = (I + J) / 2 := ⟨_, rfl⟩
          have hHI : I ≤ H := by omega
          have hHJ : H < J := by omega
          have hHn : H < n := by omega
          have hHi : (H : Int) < (n : Int) := by omega
          have hq9 := HQD.out; have hp9 := HPD.out; have hs9 := HSD.out
          have hPH : P - H < n := by omega
          have hPHi : (P : Int) - (H : Int) < (n : Int) := by omega
          have hPH0 : 0 ≤ (P : Int) - (H : Int) := by omega
          clear hq9 hp9 hs9
          have eH : ((I : Int) + (J : Int)) / 2 = (H : Int) := by omega
          have HH := Lib.hid hH; clear hH
          have HEH := Lib.hid eH; clear eH
          have HCC := Lib.hid (HC.out.sw HW.out)
          have HX1 := HM.out (P - H) (by omega)
          have HX2 := HM.out (H) (by omega)
          obtain ⟨c1, z1⟩ := HW.out.cell (k := P - H) (by omega)
          obtain ⟨c2, z2⟩ := HW.out.cell (k := H) (by omega)
          have d1 := fun z : Past w2 => Past.cell c1 z
          have d2 := fun z : Past w2 => Past.cell c2 z
          clear c1 c2 z1 z2
          obtain ⟨v, hv⟩ : ∃ v, cmpV (rests am s ws) (f (P - H)) (f (H)) = v := ⟨_, rfl⟩
          have HV := Lib.hid hv
          go_upto_region 35 with fail
          rw [HEH.out]
          by_cases hg : Gt (rests am s ws) (f (P - H)) (f (H))
          · have hvn : v < 0 := by rw [← hv]; exact cmpV_neg.2 hg
            have hvb : decide (v < 0) = true := by simpa using hvn
            have HG := Lib.hid hg; clear hv hg hvn
            go_wp2
            refine wp_region_past (by kernel_rfl) (by kernel_rfl) ?_
            repeat (go_big_quiet_step ((go_simp; go_at_call 186; exact past_call (cmp_past HCC.out HX1 HX2 HV.out _))))
            refine wpQuiet_nil ?_
            rintro _ ⟨z, rfl⟩
            clear d1 d2
            go_wp2
            go_roundw
            case rel => exact ⟨I, H, rfl, rfl, hI, hHI, by omega, HPL, Lib.hid (.inr HG.out), Lib.hid (HW.out.past z.2)⟩
            case measure => simp [intOf]; omega
          · have hvn : ¬ v < 0 := by rw [← hv]; exact fun h => hg (cmpV_neg.1 h)
            have hvb : decide (v < 0) = false := by simpa using hvn
            have HG := Lib.hid hg; clear hv hg hvn
            go_wp2
            refine wp_region_past (by kernel_rfl) (by kernel_rfl) ?_
            repeat (go_big_quiet_step ((go_simp; go_at_call 186; exact past_call (cmp_past HCC.out HX1 HX2 HV.out _))))
            refine wpQuiet_nil ?_
            rintro _ ⟨z, rfl⟩
            clear d1 d2
            go_wp2
            go_roundw
            case rel => exact ⟨H + 1, J, by go_num, rfl, by omega, by omega, hJ, Lib.hid (.inr (by rw [show Q - (H + 1) = P - H by have := HPD.out; omega, Nat.add_sub_cancel]; exact HG.out)), HPR, Lib.hid (HW.out.past z.2)⟩
            case measure => simp [intOf]; omega
        · have hIJe : I = J := by omega
          subst hIJe
          obtain ⟨E, hE⟩ : ∃ E, E = Q - I := ⟨_, rfl⟩
          have hq9 := HQD.out; have hp9 := HPD.out; have hs9 := HSD.out
          have hIQ : I ≤ Q := by omega
          have eE : (Q : Int) - (I : Int) = (E : Int) := by omega
          have hcut : CutAt (rests am s ws) a m b M I f := by
            have e1 : M + m - I = Q - I := by omega
            refine ⟨by omega, by omega, by omega, by omega, by omega, by omega, by omega, by omega, fun h1 h2 => ?_, fun h1 h2 => ?_⟩
            · rw [e1] at h2 ⊢
              rcases HPL.out with h | h
              · omega
              · exact h
            · rw [e1] at h2 ⊢
              rcases HPR.out with h | h
              · omega
              · rw [show Q - I - 1 = P - I by omega]; exact h
          have hEb := hcut.eb; have hEm := hcut.me; have hEM := hcut.em; have hIm := hcut.sm; have hIM := hcut.smid; have hIa := hcut.ac
          rw [show M + m - I = E by omega] at hEb hEm hEM
          have HHV := Lib.hid (hcut.halves H1.out H2.out HL.out)
          have HEQ2 := Lib.hid (show M + m - I = E by omega)
          have EE := Lib.hid eE
          have hEi : (E : Int) ≤ 1000 := by omega
          have hII : (I : Int) ≤ 1000 := by omega
          rename World => w3
          clear hE hcut eE hq9 hp9 hs9 hlt
          go_upto_region 39 with fail
          rw [EE.out]
          by_cases hR1 : I < m
          · have hd1 : decide ((I : Int) < (m : Int)) = true := by simp; omega
            have hd1n : decide (I < m) = true := by simp; omega
            by_cases hR2 : m < E
            · have hd2 : decide ((m : Int) < (E : Int)) = true := by simp; omega
              have hd2n : decide (m < E) = true := by simp; omega
              have HCALL := Lib.hid (rotate_any I m E (.func (.func 186) #[] #[.pointer (some ⟨q1, 0, none⟩), .pointer (some ⟨q2, 0, none⟩), .pointer (some ⟨q3, 0, none⟩)]) (SW.start HW.out.res) hn hR1 hR2 (by omega))
              go_upto_region 41 with (go_at_call 204; refine HCALL.out.mono ?_; rintro e w4 ⟨rfl, hs⟩)
              replace HW := Lib.hid (HW.out.trans hs)
              clear hs HCALL hd1 hd1n hd2 hd2n
              by_cases hI1 : a < I
              · have hd3 : decide ((a : Int) < (I : Int)) = true := by simp; omega
                have hd3n : decide (a < I) = true := by simp; omega
                by_cases hI2 : I < M
                · have hd4 : decide ((I : Int) < (M : Int)) = true := by simp; omega
                  have hd4n : decide (I < M) = true := by simp; omega
                  have HLT := Lib.hid (fun k hk => (((rot_mv (a := I) (m := m) (b := E) (by omega) (by omega) f).wide (a' := 0) (b' := n) (by omega) (by omega)).lt (Nat.le_refl _) HM.out) k hk)
                  have HCC := Lib.hid (HC.out.sw HW.out)
                  have HS9 := Lib.hid (show Srt (rests am s ws) (rotF I m E f) a I ∧ Srt (rests am s ws) (rotF I m E f) I M ∧ LR (rotF I m E f) a I M from by
                    have hv := HHV.out
                    rw [HEQ2.out] at hv
                    obtain ⟨v1, v2, v3, v4, v5, v6, v7⟩ := hv
                    exact ⟨v1, v2, v3⟩)
                  have HCALL := Lib.hid (IH.out a I M _ (rotF I m E f) (by omega) hI1 hI2 (by omega) HCC.out (SW.start HW.out.res) HLT.out HS9.out.1 HS9.out.2.1 HS9.out.2.2)
                  go_upto_region 43 with (go_at_call 202; refine HCALL.out.mono ?_; rintro e w5 ⟨rfl, g1, hs, hm2, ht2⟩)
                  have G1 := Lib.hid hm2
                  have T1 := Lib.hid ht2
                  replace HW := Lib.hid (HW.out.trans hs)
                  clear hm2 ht2 hs HCALL HS9 HLT HCC hd3 hd3n hd4 hd4n
                  by_cases hE1 : M < E
                  · have hd5 : decide ((M : Int) < (E : Int)) = true := by simp; omega
                    have hd5n : decide (M < E) = true := by simp; omega
                    by_cases hE2 : E < b
                    · have hd6 : decide ((E : Int) < (b : Int)) = true := by simp; omega
                      have hd6n : decide (E < b) = true := by simp; omega
                      have HLT := Lib.hid (fun k hk => ((G1.out.wide (a' := 0) (b' := n) (by omega) (by omega)).lt (Nat.le_refl _) (((rot_mv (a := I) (m := m) (b := E) (by omega) (by omega) f).wide (a' := 0) (b' := n) (by omega) (by omega)).lt (Nat.le_refl _) HM.out)) k hk)
                      have HCC := Lib.hid (HC.out.sw HW.out)
                      have HS9 := Lib.hid (show Srt (rests am s ws) g1 M E ∧ Srt (rests am s ws) g1 E b ∧ LR g1 M E b from by
                        have hv := HHV.out
                        rw [HEQ2.out] at hv
                        obtain ⟨v1, v2, v3, v4, v5, v6, v7⟩ := hv
                        refine ⟨v4.of_out fun k h1 h2 => G1.out.out k (.inr h1), v5.of_out fun k h1 h2 => G1.out.out k (.inr (by omega)), fun i j i1 i2 i3 i4 => ?_⟩
                        rw [G1.out.out i (.inr i1), G1.out.out j (.inr (by omega))]
                        exact v6 i j i1 i2 i3 i4)
                      have HCALL := Lib.hid (IH.out M E b _ g1 (by omega) hE1 hE2 hbn HCC.out (SW.start HW.out.res) HLT.out HS9.out.1 HS9.out.2.1 HS9.out.2.2)
                      go_wp2_with (go_at_call 202; refine HCALL.out.mono ?_; rintro e w6 ⟨rfl, g2, hs, hm2, ht2⟩)
                      go_wp2
                      go_end0
                      have hv := HHV.out
                      rw [HEQ2.out] at hv
                      obtain ⟨v1, v2, v3, v4, v5, v6, v7⟩ := hv
                      have hmv := rot_mv (a := I) (m := m) (b := E) (by omega) (by omega) f
                      obtain ⟨j1, j2⟩ := halves_join v7 (by omega) (by omega) G1.out T1.out (g2 := g2) (hm2) (ht2)
                      exact ⟨rfl, g2, HW.out.trans hs, (hmv.wide (by omega) (by omega)).trans j2, j1⟩
                    · have hd6 : decide ((E : Int) < (b : Int)) = false := by simp; omega
                      have hd6n : decide (E < b) = false := by simp; omega
                      have HEB := Lib.hid (show E = b by omega)
                      go_wp2
                      go_end0
                      have hv := HHV.out
                      rw [HEQ2.out] at hv
                      obtain ⟨v1, v2, v3, v4, v5, v6, v7⟩ := hv
                      have hmv := rot_mv (a := I) (m := m) (b := E) (by omega) (by omega) f
                      obtain ⟨j1, j2⟩ := halves_join v7 (by omega) (by omega) G1.out T1.out (g2 := g1) (Mv.refl _ _ _) ((v4.sub (Nat.le_refl _) (by have := HEB.out; omega)).of_out fun k h1 h2 => G1.out.out k (.inr h1))
                      exact ⟨rfl, g1, HW.out, (hmv.wide (by omega) (by omega)).trans j2, j1⟩
                  · have hd5 : decide ((M : Int) < (E : Int)) = false := by simp; omega
                    have hd5n : decide (M < E) = false := by simp; omega
                    have HEM := Lib.hid (show E = M by omega)
                    go_wp2
                    go_end0
                    have hv := HHV.out
                    rw [HEQ2.out] at hv
                    obtain ⟨v1, v2, v3, v4, v5, v6, v7⟩ := hv
                    have hmv := rot_mv (a := I) (m := m) (b := E) (by omega) (by omega) f
                    obtain ⟨j1, j2⟩ := halves_join v7 (by omega) (by omega) G1.out T1.out (g2 := g1) (Mv.refl _ _ _) ((v5.sub (by have := HEM.out; omega) (Nat.le_refl _)).of_out fun k h1 h2 => G1.out.out k (.inr h1))
                    exact ⟨rfl, g1, HW.out, (hmv.wide (by omega) (by omega)).trans j2, j1⟩
                · have hd4 : decide ((I : Int) < (M : Int)) = false := by simp; omega
                  have hd4n : decide (I < M) = false := by simp; omega
                  go_upto_region 43 with fail
                  obtain ⟨g1, hg1⟩ : ∃ g1, g1 = rotF I m E f := ⟨_, rfl⟩
                  have G1 := Lib.hid (show Mv a M (rotF I m E f) g1 by rw [hg1]; exact Mv.refl _ _ _)
                  have T1 := Lib.hid (show Srt (rests am s ws) g1 a M from by
                    have hv := HHV.out
                    rw [HEQ2.out] at hv
                    obtain ⟨v1, v2, v3, v4, v5, v6, v7⟩ := hv
                    rw [hg1]
                    exact v1.sub (Nat.le_refl _) (by omega))
                  replace HW := Lib.hid (show SW B w _ g n c g1 by rw [hg1]; exact HW.out)
                  clear hg1 hd3 hd3n hd4 hd4n
                  by_cases hE1 : M < E
                  · have hd5 : decide ((M : Int) < (E : Int)) = true := by simp; omega
                    have hd5n : decide (M < E) = true := by simp; omega
                    by_cases hE2 : E < b
                    · have hd6 : decide ((E : Int) < (b : Int)) = true := by simp; omega
                      have hd6n : decide (E < b) = true := by simp; omega
                      have HLT := Lib.hid (fun k hk => ((G1.out.wide (a' := 0) (b' := n) (by omega) (by omega)).lt (Nat.le_refl _) (((rot_mv (a := I) (m := m) (b := E) (by omega) (by omega) f).wide (a' := 0) (b' := n) (by omega) (by omega)).lt (Nat.le_refl _) HM.out)) k hk)
                      have HCC := Lib.hid (HC.out.sw HW.out)
                      have HS9 := Lib.hid (show Srt (rests am s ws) g1 M E ∧ Srt (rests am s ws) g1 E b ∧ LR g1 M E b from by
                        have hv := HHV.out
                        rw [HEQ2.out] at hv
                        obtain ⟨v1, v2, v3, v4, v5, v6, v7⟩ := hv
                        refine ⟨v4.of_out fun k h1 h2 => G1.out.out k (.inr h1), v5.of_out fun k h1 h2 => G1.out.out k (.inr (by omega)), fun i j i1 i2 i3 i4 => ?_⟩
                        rw [G1.out.out i (.inr i1), G1.out.out j (.inr (by omega))]
                        exact v6 i j i1 i2 i3 i4)
                      have HCALL := Lib.hid (IH.out M E b _ g1 (by omega) hE1 hE2 hbn HCC.out (SW.start HW.out.res) HLT.out HS9.out.1 HS9.out.2.1 HS9.out.2.2)
                      go_wp2_with (go_at_call 202; refine HCALL.out.mono ?_; rintro e w6 ⟨rfl, g2, hs, hm2, ht2⟩)
                      go_wp2
                      go_end0
                      have hv := HHV.out
                      rw [HEQ2.out] at hv
                      obtain ⟨v1, v2, v3, v4, v5, v6, v7⟩ := hv
                      have hmv := rot_mv (a := I) (m := m) (b := E) (by omega) (by omega) f
                      obtain ⟨j1, j2⟩ := halves_join v7 (by omega) (by omega) G1.out T1.out (g2 := g2) (hm2) (ht2)
                      exact ⟨rfl, g2, HW.out.trans hs, (hmv.wide (by omega) (by omega)).trans j2, j1⟩
                    · have hd6 : decide ((E : Int) < (b : Int)) = false := by simp; omega
                      have hd6n : decide (E < b) = false := by simp; omega
                      have HEB := Lib.hid (show E = b by omega)
                      go_wp2
                      go_end0
                      have hv := HHV.out
                      rw [HEQ2.out] at hv
                      obtain ⟨v1, v2, v3, v4, v5, v6, v7⟩ := hv
                      have hmv := rot_mv (a := I) (m := m) (b := E) (by omega) (by omega) f
                      obtain ⟨j1, j2⟩ := halves_join v7 (by omega) (by omega) G1.out T1.out (g2 := g1) (Mv.refl _ _ _) ((v4.sub (Nat.le_refl _) (by have := HEB.out; omega)).of_out fun k h1 h2 => G1.out.out k (.inr h1))
                      exact ⟨rfl, g1, HW.out, (hmv.wide (by omega) (by omega)).trans j2, j1⟩
                  · have hd5 : decide ((M : Int) < (E : Int)) = false := by simp; omega
                    have hd5n : decide (M < E) = false := by simp; omega
                    have HEM := Lib.hid (show E = M by omega)
                    go_wp2
                    go_end0
                    have hv := HHV.out
                    rw [HEQ2.out] at hv
                    obtain ⟨v1, v2, v3, v4, v5, v6, v7⟩ := hv
                    have hmv := rot_mv (a := I) (m := m) (b := E) (by omega) (by omega) f
                    obtain ⟨j1, j2⟩ := halves_join v7 (by omega) (by omega) G1.out T1.out (g2 := g1) (Mv.refl _ _ _) ((v5.sub (by have := HEM.out; omega) (Nat.le_refl _)).of_out fun k h1 h2 => G1.out.out k (.inr h1))
                    exact ⟨rfl, g1, HW.out, (hmv.wide (by omega) (by omega)).trans j2, j1⟩
              · have hd3 : decide ((a : Int) < (I : Int)) = false := by simp; omega
                have hd3n : decide (a < I) = false := by simp; omega
                go_upto_region 43 with fail
                obtain ⟨g1, hg1⟩ : ∃ g1, g1 = rotF I m E f := ⟨_, rfl⟩
                have G1 := Lib.hid (show Mv a M (rotF I m E f) g1 by rw [hg1]; exact Mv.refl _ _ _)
                have T1 := Lib.hid (show Srt (rests am s ws) g1 a M from by
                  have hv := HHV.out
                  rw [HEQ2.out] at hv
                  obtain ⟨v1, v2, v3, v4, v5, v6, v7⟩ := hv
                  rw [hg1]
                  exact v2.sub (by omega) (Nat.le_refl _))
                replace HW := Lib.hid (show SW B w _ g n c g1 by rw [hg1]; exact HW.out)
                clear hg1 hd3 hd3n
                by_cases hE1 : M < E
                · have hd5 : decide ((M : Int) < (E : Int)) = true := by simp; omega
                  have hd5n : decide (M < E) = true := by simp; omega
                  by_cases hE2 : E < b
                  · have hd6 : decide ((E : Int) < (b : Int)) = true := by simp; omega
                    have hd6n : decide (E < b) = true := by simp; omega
                    have HLT := Lib.hid (fun k hk => ((G1.out.wide (a' := 0) (b' := n) (by omega) (by omega)).lt (Nat.le_refl _) (((rot_mv (a := I) (m := m) (b := E) (by omega) (by omega) f).wide (a' := 0) (b' := n) (by omega) (by omega)).lt (Nat.le_refl _) HM.out)) k hk)
                    have HCC := Lib.hid (HC.out.sw HW.out)
                    have HS9 := Lib.hid (show Srt (rests am s ws) g1 M E ∧ Srt (rests am s ws) g1 E b ∧ LR g1 M E b from by
                      have hv := HHV.out
                      rw [HEQ2.out] at hv
                      obtain ⟨v1, v2, v3, v4, v5, v6, v7⟩ := hv
                      refine ⟨v4.of_out fun k h1 h2 => G1.out.out k (.inr h1), v5.of_out fun k h1 h2 => G1.out.out k (.inr (by omega)), fun i j i1 i2 i3 i4 => ?_⟩
                      rw [G1.out.out i (.inr i1), G1.out.out j (.inr (by omega))]
                      exact v6 i j i1 i2 i3 i4)
                    have HCALL := Lib.hid (IH.out M E b _ g1 (by omega) hE1 hE2 hbn HCC.out (SW.start HW.out.res) HLT.out HS9.out.1 HS9.out.2.1 HS9.out.2.2)
                    go_wp2_with (go_at_call 202; refine HCALL.out.mono ?_; rintro e w6 ⟨rfl, g2, hs, hm2, ht2⟩)
                    go_wp2
                    go_end0
                    have hv := HHV.out
                    rw [HEQ2.out] at hv
                    obtain ⟨v1, v2, v3, v4, v5, v6, v7⟩ := hv
                    have hmv := rot_mv (a := I) (m := m) (b := E) (by omega) (by omega) f
                    obtain ⟨j1, j2⟩ := halves_join v7 (by omega) (by omega) G1.out T1.out (g2 := g2) (hm2) (ht2)
                    exact ⟨rfl, g2, HW.out.trans hs, (hmv.wide (by omega) (by omega)).trans j2, j1⟩
                  · have hd6 : decide ((E : Int) < (b : Int)) = false := by simp; omega
                    have hd6n : decide (E < b) = false := by simp; omega
                    have HEB := Lib.hid (show E = b by omega)
                    go_wp2
                    go_end0
                    have hv := HHV.out
                    rw [HEQ2.out] at hv
                    obtain ⟨v1, v2, v3, v4, v5, v6, v7⟩ := hv
                    have hmv := rot_mv (a := I) (m := m) (b := E) (by omega) (by omega) f
                    obtain ⟨j1, j2⟩ := halves_join v7 (by omega) (by omega) G1.out T1.out (g2 := g1) (Mv.refl _ _ _) ((v4.sub (Nat.le_refl _) (by have := HEB.out; omega)).of_out fun k h1 h2 => G1.out.out k (.inr h1))
                    exact ⟨rfl, g1, HW.out, (hmv.wide (by omega) (by omega)).trans j2, j1⟩
                · have hd5 : decide ((M : Int) < (E : Int)) = false := by simp; omega
                  have hd5n : decide (M < E) = false := by simp; omega
                  have HEM := Lib.hid (show E = M by omega)
                  go_wp2
                  go_end0
                  have hv := HHV.out
                  rw [HEQ2.out] at hv
                  obtain ⟨v1, v2, v3, v4, v5, v6, v7⟩ := hv
                  have hmv := rot_mv (a := I) (m := m) (b := E) (by omega) (by omega) f
                  obtain ⟨j1, j2⟩ := halves_join v7 (by omega) (by omega) G1.out T1.out (g2 := g1) (Mv.refl _ _ _) ((v5.sub (by have := HEM.out; omega) (Nat.le_refl _)).of_out fun k h1 h2 => G1.out.out k (.inr h1))
                  exact ⟨rfl, g1, HW.out, (hmv.wide (by omega) (by omega)).trans j2, j1⟩
            · have hd2 : decide ((m : Int) < (E : Int)) = false := by simp; omega
              have hd2n : decide (m < E) = false := by simp; omega
              go_upto_region 41 with fail
              replace HW := Lib.hid (show SW B w _ g n c (rotF I m E f) by rw [rot_none (.inr (by omega)) (by omega) (by omega)]; exact HW.out)
              clear hd1 hd1n hd2 hd2n
              by_cases hI1 : a < I
              · have hd3 : decide ((a : Int) < (I : Int)) = true := by simp; omega
                have hd3n : decide (a < I) = true := by simp; omega
                by_cases hI2 : I < M
                · have hd4 : decide ((I : Int) < (M : Int)) = true := by simp; omega
                  have hd4n : decide (I < M) = true := by simp; omega
                  have HLT := Lib.hid (fun k hk => (((rot_mv (a := I) (m := m) (b := E) (by omega) (by omega) f).wide (a' := 0) (b' := n) (by omega) (by omega)).lt (Nat.le_refl _) HM.out) k hk)
                  have HCC := Lib.hid (HC.out.sw HW.out)
                  have HS9 := Lib.hid (show Srt (rests am s ws) (rotF I m E f) a I ∧ Srt (rests am s ws) (rotF I m E f) I M ∧ LR (rotF I m E f) a I M from by
                    have hv := HHV.out
                    rw [HEQ2.out] at hv
                    obtain ⟨v1, v2, v3, v4, v5, v6, v7⟩ := hv
                    exact ⟨v1, v2, v3⟩)
                  have HCALL := Lib.hid (IH.out a I M _ (rotF I m E f) (by omega) hI1 hI2 (by omega) HCC.out (SW.start HW.out.res) HLT.out HS9.out.1 HS9.out.2.1 HS9.out.2.2)
                  go_upto_region 43 with (go_at_call 202; refine HCALL.out.mono ?_; rintro e w5 ⟨rfl, g1, hs, hm2, ht2⟩)
                  have G1 := Lib.hid hm2
                  have T1 := Lib.hid ht2
                  replace HW := Lib.hid (HW.out.trans hs)
                  clear hm2 ht2 hs HCALL HS9 HLT HCC hd3 hd3n hd4 hd4n
                  by_cases hE1 : M < E
                  · have hd5 : decide ((M : Int) < (E : Int)) = true := by simp; omega
                    have hd5n : decide (M < E) = true := by simp; omega
                    by_cases hE2 : E < b
                    · have hd6 : decide ((E : Int) < (b : Int)) = true := by simp; omega
                      have hd6n : decide (E < b) = true := by simp; omega
                      have HLT := Lib.hid (fun k hk => ((G1.out.wide (a' := 0) (b' := n) (by omega) (by omega)).lt (Nat.le_refl _) (((rot_mv (a := I) (m := m) (b := E) (by omega) (by omega) f).wide (a' := 0) (b' := n) (by omega) (by omega)).lt (Nat.le_refl _) HM.out)) k hk)
                      have HCC := Lib.hid (HC.out.sw HW.out)
                      have HS9 := Lib.hid (show Srt (rests am s ws) g1 M E ∧ Srt (rests am s ws) g1 E b ∧ LR g1 M E b from by
                        have hv := HHV.out
                        rw [HEQ2.out] at hv
                        obtain ⟨v1, v2, v3, v4, v5, v6, v7⟩ := hv
                        refine ⟨v4.of_out fun k h1 h2 => G1.out.out k (.inr h1), v5.of_out fun k h1 h2 => G1.out.out k (.inr (by omega)), fun i j i1 i2 i3 i4 => ?_⟩
                        rw [G1.out.out i (.inr i1), G1.out.out j (.inr (by omega))]
                        exact v6 i j i1 i2 i3 i4)
                      have HCALL := Lib.hid (IH.out M E b _ g1 (by omega) hE1 hE2 hbn HCC.out (SW.start HW.out.res) HLT.out HS9.out.1 HS9.out.2.1 HS9.out.2.2)
                      go_wp2_with (go_at_call 202; refine HCALL.out.mono ?_; rintro e w6 ⟨rfl, g2, hs, hm2, ht2⟩)
                      go_wp2
                      go_end0
                      have hv := HHV.out
                      rw [HEQ2.out] at hv
                      obtain ⟨v1, v2, v3, v4, v5, v6, v7⟩ := hv
                      have hmv := rot_mv (a := I) (m := m) (b := E) (by omega) (by omega) f
                      obtain ⟨j1, j2⟩ := halves_join v7 (by omega) (by omega) G1.out T1.out (g2 := g2) (hm2) (ht2)
                      exact ⟨rfl, g2, HW.out.trans hs, (hmv.wide (by omega) (by omega)).trans j2, j1⟩
                    · have hd6 : decide ((E : Int) < (b : Int)) = false := by simp; omega
                      have hd6n : decide (E < b) = false := by simp; omega
                      have HEB := Lib.hid (show E = b by omega)
                      go_wp2
                      go_end0
                      have hv := HHV.out
                      rw [HEQ2.out] at hv
                      obtain ⟨v1, v2, v3, v4, v5, v6, v7⟩ := hv
                      have hmv := rot_mv (a := I) (m := m) (b := E) (by omega) (by omega) f
                      obtain ⟨j1, j2⟩ := halves_join v7 (by omega) (by omega) G1.out T1.out (g2 := g1) (Mv.refl _ _ _) ((v4.sub (Nat.le_refl _) (by have := HEB.out; omega)).of_out fun k h1 h2 => G1.out.out k (.inr h1))
                      exact ⟨rfl, g1, HW.out, (hmv.wide (by omega) (by omega)).trans j2, j1⟩
                  · have hd5 : decide ((M : Int) < (E : Int)) = false := by simp; omega
                    have hd5n : decide (M < E) = false := by simp; omega
                    have HEM := Lib.hid (show E = M by omega)
                    go_wp2
                    go_end0
                    have hv := HHV.out
                    rw [HEQ2.out] at hv
                    obtain ⟨v1, v2, v3, v4, v5, v6, v7⟩ := hv
                    have hmv := rot_mv (a := I) (m := m) (b := E) (by omega) (by omega) f
                    obtain ⟨j1, j2⟩ := halves_join v7 (by omega) (by omega) G1.out T1.out (g2 := g1) (Mv.refl _ _ _) ((v5.sub (by have := HEM.out; omega) (Nat.le_refl _)).of_out fun k h1 h2 => G1.out.out k (.inr h1))
                    exact ⟨rfl, g1, HW.out, (hmv.wide (by omega) (by omega)).trans j2, j1⟩
                · have hd4 : decide ((I : Int) < (M : Int)) = false := by simp; omega
                  have hd4n : decide (I < M) = false := by simp; omega
                  go_upto_region 43 with fail
                  obtain ⟨g1, hg1⟩ : ∃ g1, g1 = rotF I m E f := ⟨_, rfl⟩
                  have G1 := Lib.hid (show Mv a M (rotF I m E f) g1 by rw [hg1]; exact Mv.refl _ _ _)
                  have T1 := Lib.hid (show Srt (rests am s ws) g1 a M from by
                    have hv := HHV.out
                    rw [HEQ2.out] at hv
                    obtain ⟨v1, v2, v3, v4, v5, v6, v7⟩ := hv
                    rw [hg1]
                    exact v1.sub (Nat.le_refl _) (by omega))
                  replace HW := Lib.hid (show SW B w _ g n c g1 by rw [hg1]; exact HW.out)
                  clear hg1 hd3 hd3n hd4 hd4n
                  by_cases hE1 : M < E
                  · have hd5 : decide ((M : Int) < (E : Int)) = true := by simp; omega
                    have hd5n : decide (M < E) = true := by simp; omega
                    by_cases hE2 : E < b
                    · have hd6 : decide ((E : Int) < (b : Int)) = true := by simp; omega
                      have hd6n : decide (E < b) = true := by simp; omega
                      have HLT := Lib.hid (fun k hk => ((G1.out.wide (a' := 0) (b' := n) (by omega) (by omega)).lt (Nat.le_refl _) (((rot_mv (a := I) (m := m) (b := E) (by omega) (by omega) f).wide (a' := 0) (b' := n) (by omega) (by omega)).lt (Nat.le_refl _) HM.out)) k hk)
                      have HCC := Lib.hid (HC.out.sw HW.out)
                      have HS9 := Lib.hid (show Srt (rests am s ws) g1 M E ∧ Srt (rests am s ws) g1 E b ∧ LR g1 M E b from by
                        have hv := HHV.out
                        rw [HEQ2.out] at hv
                        obtain ⟨v1, v2, v3, v4, v5, v6, v7⟩ := hv
                        refine ⟨v4.of_out fun k h1 h2 => G1.out.out k (.inr h1), v5.of_out fun k h1 h2 => G1.out.out k (.inr (by omega)), fun i j i1 i2 i3 i4 => ?_⟩
                        rw [G1.out.out i (.inr i1), G1.out.out j (.inr (by omega))]
                        exact v6 i j i1 i2 i3 i4)
                      have HCALL := Lib.hid (IH.out M E b _ g1 (by omega) hE1 hE2 hbn HCC.out (SW.start HW.out.res) HLT.out HS9.out.1 HS9.out.2.1 HS9.out.2.2)
                      go_wp2_with (go_at_call 202; refine HCALL.out.mono ?_; rintro e w6 ⟨rfl, g2, hs, hm2, ht2⟩)
                      go_wp2
                      go_end0
                      have hv := HHV.out
                      rw [HEQ2.out] at hv
                      obtain ⟨v1, v2, v3, v4, v5, v6, v7⟩ := hv
                      have hmv := rot_mv (a := I) (m := m) (b := E) (by omega) (by omega) f
                      obtain ⟨j1, j2⟩ := halves_join v7 (by omega) (by omega) G1.out T1.out (g2 := g2) (hm2) (ht2)
                      exact ⟨rfl, g2, HW.out.trans hs, (hmv.wide (by omega) (by omega)).trans j2, j1⟩
                    · have hd6 : decide ((E : Int) < (b : Int)) = false := by simp; omega
                      have hd6n : decide (E < b) = false := by simp; omega
                      have HEB := Lib.hid (show E = b by omega)
                      go_wp2
                      go_end0
                      have hv := HHV.out
                      rw [HEQ2.out] at hv
                      obtain ⟨v1, v2, v3, v4, v5, v6, v7⟩ := hv
                      have hmv := rot_mv (a := I) (m := m) (b := E) (by omega) (by omega) f
                      obtain ⟨j1, j2⟩ := halves_join v7 (by omega) (by omega) G1.out T1.out (g2 := g1) (Mv.refl _ _ _) ((v4.sub (Nat.le_refl _) (by have := HEB.out; omega)).of_out fun k h1 h2 => G1.out.out k (.inr h1))
                      exact ⟨rfl, g1, HW.out, (hmv.wide (by omega) (by omega)).trans j2, j1⟩
                  · have hd5 : decide ((M : Int) < (E : Int)) = false := by simp; omega
                    have hd5n : decide (M < E) = false := by simp; omega
                    have HEM := Lib.hid (show E = M by omega)
                    go_wp2
                    go_end0
                    have hv := HHV.out
                    rw [HEQ2.out] at hv
                    obtain ⟨v1, v2, v3, v4, v5, v6, v7⟩ := hv
                    have hmv := rot_mv (a := I) (m := m) (b := E) (by omega) (by omega) f
                    obtain ⟨j1, j2⟩ := halves_join v7 (by omega) (by omega) G1.out T1.out (g2 := g1) (Mv.refl _ _ _) ((v5.sub (by have := HEM.out; omega) (Nat.le_refl _)).of_out fun k h1 h2 => G1.out.out k (.inr h1))
                    exact ⟨rfl, g1, HW.out, (hmv.wide (by omega) (by omega)).trans j2, j1⟩
              · have hd3 : decide ((a : Int) < (I : Int)) = false := by simp; omega
                have hd3n : decide (a < I) = false := by simp; omega
                go_upto_region 43 with fail
                obtain ⟨g1, hg1⟩ : ∃ g1, g1 = rotF I m E f := ⟨_, rfl⟩
                have G1 := Lib.hid (show Mv a M (rotF I m E f) g1 by rw [hg1]; exact Mv.refl _ _ _)
                have T1 := Lib.hid (show Srt (rests am s ws) g1 a M from by
                  have hv := HHV.out
                  rw [HEQ2.out] at hv
                  obtain ⟨v1, v2, v3, v4, v5, v6, v7⟩ := hv
                  rw [hg1]
                  exact v2.sub (by omega) (Nat.le_refl _))
                replace HW := Lib.hid (show SW B w _ g n c g1 by rw [hg1]; exact HW.out)
                clear hg1 hd3 hd3n
                by_cases hE1 : M < E
                · have hd5 : decide ((M : Int) < (E : Int)) = true := by simp; omega
                  have hd5n : decide (M < E) = true := by simp; omega
                  by_cases hE2 : E < b
                  · have hd6 : decide ((E : Int) < (b : Int)) = true := by simp; omega
                    have hd6n : decide (E < b) = true := by simp; omega
                    have HLT := Lib.hid (fun k hk => ((G1.out.wide (a' := 0) (b' := n) (by omega) (by omega)).lt (Nat.le_refl _) (((rot_mv (a := I) (m := m) (b := E) (by omega) (by omega) f).wide (a' := 0) (b' := n) (by omega) (by omega)).lt (Nat.le_refl _) HM.out)) k hk)
                    have HCC := Lib.hid (HC.out.sw HW.out)
                    have HS9 := Lib.hid (show Srt (rests am s ws) g1 M E ∧ Srt (rests am s ws) g1 E b ∧ LR g1 M E b from by
                      have hv := HHV.out
                      rw [HEQ2.out] at hv
                      obtain ⟨v1, v2, v3, v4, v5, v6, v7⟩ := hv
                      refine ⟨v4.of_out fun k h1 h2 => G1.out.out k (.inr h1), v5.of_out fun k h1 h2 => G1.out.out k (.inr (by omega)), fun i j i1 i2 i3 i4 => ?_⟩
                      rw [G1.out.out i (.inr i1), G1.out.out j (.inr (by omega))]
                      exact v6 i j i1 i2 i3 i4)
                    have HCALL := Lib.hid (IH.out M E b _ g1 (by omega) hE1 hE2 hbn HCC.out (SW.start HW.out.res) HLT.out HS9.out.1 HS9.out.2.1 HS9.out.2.2)
                    go_wp2_with (go_at_call 202; refine HCALL.out.mono ?_; rintro e w6 ⟨rfl, g2, hs, hm2, ht2⟩)
                    go_wp2
                    go_end0
                    have hv := HHV.out
                    rw [HEQ2.out] at hv
                    obtain ⟨v1, v2, v3, v4, v5, v6, v7⟩ := hv
                    have hmv := rot_mv (a := I) (m := m) (b := E) (by omega) (by omega) f
                    obtain ⟨j1, j2⟩ := halves_join v7 (by omega) (by omega) G1.out T1.out (g2 := g2) (hm2) (ht2)
                    exact ⟨rfl, g2, HW.out.trans hs, (hmv.wide (by omega) (by omega)).trans j2, j1⟩
                  · have hd6 : decide ((E : Int) < (b : Int)) = false := by simp; omega
                    have hd6n : decide (E < b) = false := by simp; omega
                    have HEB := Lib.hid (show E = b by omega)
                    go_wp2
                    go_end0
                    have hv := HHV.out
                    rw [HEQ2.out] at hv
                    obtain ⟨v1, v2, v3, v4, v5, v6, v7⟩ := hv
                    have hmv := rot_mv (a := I) (m := m) (b := E) (by omega) (by omega) f
                    obtain ⟨j1, j2⟩ := halves_join v7 (by omega) (by omega) G1.out T1.out (g2 := g1) (Mv.refl _ _ _) ((v4.sub (Nat.le_refl _) (by have := HEB.out; omega)).of_out fun k h1 h2 => G1.out.out k (.inr h1))
                    exact ⟨rfl, g1, HW.out, (hmv.wide (by omega) (by omega)).trans j2, j1⟩
                · have hd5 : decide ((M : Int) < (E : Int)) = false := by simp; omega
                  have hd5n : decide (M < E) = false := by simp; omega
                  have HEM := Lib.hid (show E = M by omega)
                  go_wp2
                  go_end0
                  have hv := HHV.out
                  rw [HEQ2.out] at hv
                  obtain ⟨v1, v2, v3, v4, v5, v6, v7⟩ := hv
                  have hmv := rot_mv (a := I) (m := m) (b := E) (by omega) (by omega) f
                  obtain ⟨j1, j2⟩ := halves_join v7 (by omega) (by omega) G1.out T1.out (g2 := g1) (Mv.refl _ _ _) ((v5.sub (by have := HEM.out; omega) (Nat.le_refl _)).of_out fun k h1 h2 => G1.out.out k (.inr h1))
                  exact ⟨rfl, g1, HW.out, (hmv.wide (by omega) (by omega)).trans j2, j1⟩
          · have hd1 : decide ((I : Int) < (m : Int)) = false := by simp; omega
            have hd1n : decide (I < m) = false := by simp; omega
            go_upto_region 41 with fail
            replace HW := Lib.hid (show SW B w _ g n c (rotF I m E f) by rw [rot_none (.inl (by omega)) (by omega) (by omega)]; exact HW.out)
            clear hd1 hd1n
            by_cases hI1 : a < I
            · have hd3 : decide ((a : Int) < (I : Int)) = true := by simp; omega
              have hd3n : decide (a < I) = true := by simp; omega
              by_cases hI2 : I < M
              · have hd4 : decide ((I : Int) < (M : Int)) = true := by simp; omega
                have hd4n : decide (I < M) = true := by simp; omega
                have HLT := Lib.hid (fun k hk => (((rot_mv (a := I) (m := m) (b := E) (by omega) (by omega) f).wide (a' := 0) (b' := n) (by omega) (by omega)).lt (Nat.le_refl _) HM.out) k hk)
                have HCC := Lib.hid (HC.out.sw HW.out)
                have HS9 := Lib.hid (show Srt (rests am s ws) (rotF I m E f) a I ∧ Srt (rests am s ws) (rotF I m E f) I M ∧ LR (rotF I m E f) a I M from by
                  have hv := HHV.out
                  rw [HEQ2.out] at hv
                  obtain ⟨v1, v2, v3, v4, v5, v6, v7⟩ := hv
                  exact ⟨v1, v2, v3⟩)
                have HCALL := Lib.hid (IH.out a I M _ (rotF I m E f) (by omega) hI1 hI2 (by omega) HCC.out (SW.start HW.out.res) HLT.out HS9.out.1 HS9.out.2.1 HS9.out.2.2)
                go_upto_region 43 with (go_at_call 202; refine HCALL.out.mono ?_; rintro e w5 ⟨rfl, g1, hs, hm2, ht2⟩)
                have G1 := Lib.hid hm2
                have T1 := Lib.hid ht2
                replace HW := Lib.hid (HW.out.trans hs)
                clear hm2 ht2 hs HCALL HS9 HLT HCC hd3 hd3n hd4 hd4n
                by_cases hE1 : M < E
                · have hd5 : decide ((M : Int) < (E : Int)) = true := by simp; omega
                  have hd5n : decide (M < E) = true := by simp; omega
                  by_cases hE2 : E < b
                  · have hd6 : decide ((E : Int) < (b : Int)) = true := by simp; omega
                    have hd6n : decide (E < b) = true := by simp; omega
                    have HLT := Lib.hid (fun k hk => ((G1.out.wide (a' := 0) (b' := n) (by omega) (by omega)).lt (Nat.le_refl _) (((rot_mv (a := I) (m := m) (b := E) (by omega) (by omega) f).wide (a' := 0) (b' := n) (by omega) (by omega)).lt (Nat.le_refl _) HM.out)) k hk)
                    have HCC := Lib.hid (HC.out.sw HW.out)
                    have HS9 := Lib.hid (show Srt (rests am s ws) g1 M E ∧ Srt (rests am s ws) g1 E b ∧ LR g1 M E b from by
                      have hv := HHV.out
                      rw [HEQ2.out] at hv
                      obtain ⟨v1, v2, v3, v4, v5, v6, v7⟩ := hv
                      refine ⟨v4.of_out fun k h1 h2 => G1.out.out k (.inr h1), v5.of_out fun k h1 h2 => G1.out.out k (.inr (by omega)), fun i j i1 i2 i3 i4 => ?_⟩
                      rw [G1.out.out i (.inr i1), G1.out.out j (.inr (by omega))]
                      exact v6 i j i1 i2 i3 i4)
                    have HCALL := Lib.hid (IH.out M E b _ g1 (by omega) hE1 hE2 hbn HCC.out (SW.start HW.out.res) HLT.out HS9.out.1 HS9.out.2.1 HS9.out.2.2)
                    go_wp2_with (go_at_call 202; refine HCALL.out.mono ?_; rintro e w6 ⟨rfl, g2, hs, hm2, ht2⟩)
                    go_wp2
                    go_end0
                    have hv := HHV.out
                    rw [HEQ2.out] at hv
                    obtain ⟨v1, v2, v3, v4, v5, v6, v7⟩ := hv
                    have hmv := rot_mv (a := I) (m := m) (b := E) (by omega) (by omega) f
                    obtain ⟨j1, j2⟩ := halves_join v7 (by omega) (by omega) G1.out T1.out (g2 := g2) (hm2) (ht2)
                    exact ⟨rfl, g2, HW.out.trans hs, (hmv.wide (by omega) (by omega)).trans j2, j1⟩
                  · have hd6 : decide ((E : Int) < (b : Int)) = false := by simp; omega
                    have hd6n : decide (E < b) = false := by simp; omega
                    have HEB := Lib.hid (show E = b by omega)
                    go_wp2
                    go_end0
                    have hv := HHV.out
                    rw [HEQ2.out] at hv
                    obtain ⟨v1, v2, v3, v4, v5, v6, v7⟩ := hv
                    have hmv := rot_mv (a := I) (m := m) (b := E) (by omega) (by omega) f
                    obtain ⟨j1, j2⟩ := halves_join v7 (by omega) (by omega) G1.out T1.out (g2 := g1) (Mv.refl _ _ _) ((v4.sub (Nat.le_refl _) (by have := HEB.out; omega)).of_out fun k h1 h2 => G1.out.out k (.inr h1))
                    exact ⟨rfl, g1, HW.out, (hmv.wide (by omega) (by omega)).trans j2, j1⟩
                · have hd5 : decide ((M : Int) < (E : Int)) = false := by simp; omega
                  have hd5n : decide (M < E) = false := by simp; omega
                  have HEM := Lib.hid (show E = M by omega)
                  go_wp2
                  go_end0
                  have hv := HHV.out
                  rw [HEQ2.out] at hv
                  obtain ⟨v1, v2, v3, v4, v5, v6, v7⟩ := hv
                  have hmv := rot_mv (a := I) (m := m) (b := E) (by omega) (by omega) f
                  obtain ⟨j1, j2⟩ := halves_join v7 (by omega) (by omega) G1.out T1.out (g2 := g1) (Mv.refl _ _ _) ((v5.sub (by have := HEM.out; omega) (Nat.le_refl _)).of_out fun k h1 h2 => G1.out.out k (.inr h1))
                  exact ⟨rfl, g1, HW.out, (hmv.wide (by omega) (by omega)).trans j2, j1⟩
              · have hd4 : decide ((I : Int) < (M : Int)) = false := by simp; omega
                have hd4n : decide (I < M) = false := by simp; omega
                go_upto_region 43 with fail
                obtain ⟨g1, hg1⟩ : ∃ g1, g1 = rotF I m E f := ⟨_, rfl⟩
                have G1 := Lib.hid (show Mv a M (rotF I m E f) g1 by rw [hg1]; exact Mv.refl _ _ _)
                have T1 := Lib.hid (show Srt (rests am s ws) g1 a M from by
                  have hv := HHV.out
                  rw [HEQ2.out] at hv
                  obtain ⟨v1, v2, v3, v4, v5, v6, v7⟩ := hv
                  rw [hg1]
                  exact v1.sub (Nat.le_refl _) (by omega))
                replace HW := Lib.hid (show SW B w _ g n c g1 by rw [hg1]; exact HW.out)
                clear hg1 hd3 hd3n hd4 hd4n
                by_cases hE1 : M < E
                · have hd5 : decide ((M : Int) < (E : Int)) = true := by simp; omega
                  have hd5n : decide (M < E) = true := by simp; omega
                  by_cases hE2 : E < b
                  · have hd6 : decide ((E : Int) < (b : Int)) = true := by simp; omega
                    have hd6n : decide (E < b) = true := by simp; omega
                    have HLT := Lib.hid (fun k hk => ((G1.out.wide (a' := 0) (b' := n) (by omega) (by omega)).lt (Nat.le_refl _) (((rot_mv (a := I) (m := m) (b := E) (by omega) (by omega) f).wide (a' := 0) (b' := n) (by omega) (by omega)).lt (Nat.le_refl _) HM.out)) k hk)
                    have HCC := Lib.hid (HC.out.sw HW.out)
                    have HS9 := Lib.hid (show Srt (rests am s ws) g1 M E ∧ Srt (rests am s ws) g1 E b ∧ LR g1 M E b from by
                      have hv := HHV.out
                      rw [HEQ2.out] at hv
                      obtain ⟨v1, v2, v3, v4, v5, v6, v7⟩ := hv
                      refine ⟨v4.of_out fun k h1 h2 => G1.out.out k (.inr h1), v5.of_out fun k h1 h2 => G1.out.out k (.inr (by omega)), fun i j i1 i2 i3 i4 => ?_⟩
                      rw [G1.out.out i (.inr i1), G1.out.out j (.inr (by omega))]
                      exact v6 i j i1 i2 i3 i4)
                    have HCALL := Lib.hid (IH.out M E b _ g1 (by omega) hE1 hE2 hbn HCC.out (SW.start HW.out.res) HLT.out HS9.out.1 HS9.out.2.1 HS9.out.2.2)
                    go_wp2_with (go_at_call 202; refine HCALL.out.mono ?_; rintro e w6 ⟨rfl, g2, hs, hm2, ht2⟩)
                    go_wp2
                    go_end0
                    have hv := HHV.out
                    rw [HEQ2.out] at hv
                    obtain ⟨v1, v2, v3, v4, v5, v6, v7⟩ := hv
                    have hmv := rot_mv (a := I) (m := m) (b := E) (by omega) (by omega) f
                    obtain ⟨j1, j2⟩ := halves_join v7 (by omega) (by omega) G1.out T1.out (g2 := g2) (hm2) (ht2)
                    exact ⟨rfl, g2, HW.out.trans hs, (hmv.wide (by omega) (by omega)).trans j2, j1⟩
                  · have hd6 : decide ((E : Int) < (b : Int)) = false := by simp; omega
                    have hd6n : decide (E < b) = false := by simp; omega
                    have HEB := Lib.hid (show E = b by omega)
                    go_wp2
                    go_end0
                    have hv := HHV.out
                    rw [HEQ2.out] at hv
                    obtain ⟨v1, v2, v3, v4, v5, v6, v7⟩ := hv
                    have hmv := rot_mv (a := I) (m := m) (b := E) (by omega) (by omega) f
                    obtain ⟨j1, j2⟩ := halves_join v7 (by omega) (by omega) G1.out T1.out (g2 := g1) (Mv.refl _ _ _) ((v4.sub (Nat.le_refl _) (by have := HEB.out; omega)).of_out fun k h1 h2 => G1.out.out k (.inr h1))
                    exact ⟨rfl, g1, HW.out, (hmv.wide (by omega) (by omega)).trans j2, j1⟩
                · have hd5 : decide ((M : Int) < (E : Int)) = false := by simp; omega
                  have hd5n : decide (M < E) = false := by simp; omega
                  have HEM := Lib.hid (show E = M by omega)
                  go_wp2
                  go_end0
                  have hv := HHV.out
                  rw [HEQ2.out] at hv
                  obtain ⟨v1, v2, v3, v4, v5, v6, v7⟩ := hv
                  have hmv := rot_mv (a := I) (m := m) (b := E) (by omega) (by omega) f
                  obtain ⟨j1, j2⟩ := halves_join v7 (by omega) (by omega) G1.out T1.out (g2 := g1) (Mv.refl _ _ _) ((v5.sub (by have := HEM.out; omega) (Nat.le_refl _)).of_out fun k h1 h2 => G1.out.out k (.inr h1))
                  exact ⟨rfl, g1, HW.out, (hmv.wide (by omega) (by omega)).trans j2, j1⟩
            · have hd3 : decide ((a : Int) < (I : Int)) = false := by simp; omega
              have hd3n : decide (a < I) = false := by simp; omega
              go_upto_region 43 with fail
              obtain ⟨g1, hg1⟩ : ∃ g1, g1 = rotF I m E f := ⟨_, rfl⟩
              have G1 := Lib.hid (show Mv a M (rotF I m E f) g1 by rw [hg1]; exact Mv.refl _ _ _)
              have T1 := Lib.hid (show Srt (rests am s ws) g1 a M from by
                have hv := HHV.out
                rw [HEQ2.out] at hv
                obtain ⟨v1, v2, v3, v4, v5, v6, v7⟩ := hv
                rw [hg1]
                exact v2.sub (by omega) (Nat.le_refl _))
              replace HW := Lib.hid (show SW B w _ g n c g1 by rw [hg1]; exact HW.out)
              clear hg1 hd3 hd3n
              by_cases hE1 : M < E
              · have hd5 : decide ((M : Int) < (E : Int)) = true := by simp; omega
                have hd5n : decide (M < E) = true := by simp; omega
                by_cases hE2 : E < b
                · have hd6 : decide ((E : Int) < (b : Int)) = true := by simp; omega
                  have hd6n : decide (E < b) = true := by simp; omega
                  have HLT := Lib.hid (fun k hk => ((G1.out.wide (a' := 0) (b' := n) (by omega) (by omega)).lt (Nat.le_refl _) (((rot_mv (a := I) (m := m) (b := E) (by omega) (by omega) f).wide (a' := 0) (b' := n) (by omega) (by omega)).lt (Nat.le_refl _) HM.out)) k hk)
                  have HCC := Lib.hid (HC.out.sw HW.out)
                  have HS9 := Lib.hid (show Srt (rests am s ws) g1 M E ∧ Srt (rests am s ws) g1 E b ∧ LR g1 M E b from by
                    have hv := HHV.out
                    rw [HEQ2.out] at hv
                    obtain ⟨v1, v2, v3, v4, v5, v6, v7⟩ := hv
                    refine ⟨v4.of_out fun k h1 h2 => G1.out.out k (.inr h1), v5.of_out fun k h1 h2 => G1.out.out k (.inr (by omega)), fun i j i1 i2 i3 i4 => ?_⟩
                    rw [G1.out.out i (.inr i1), G1.out.out j (.inr (by omega))]
                    exact v6 i j i1 i2 i3 i4)
                  have HCALL := Lib.hid (IH.out M E b _ g1 (by omega) hE1 hE2 hbn HCC.out (SW.start HW.out.res) HLT.out HS9.out.1 HS9.out.2.1 HS9.out.2.2)
                  go_wp2_with (go_at_call 202; refine HCALL.out.mono ?_; rintro e w6 ⟨rfl, g2, hs, hm2, ht2⟩)
                  go_wp2
                  go_end0
                  have hv := HHV.out
                  rw [HEQ2.out] at hv
                  obtain ⟨v1, v2, v3, v4, v5, v6, v7⟩ := hv
                  have hmv := rot_mv (a := I) (m := m) (b := E) (by omega) (by omega) f
                  obtain ⟨j1, j2⟩ := halves_join v7 (by omega) (by omega) G1.out T1.out (g2 := g2) (hm2) (ht2)
                  exact ⟨rfl, g2, HW.out.trans hs, (hmv.wide (by omega) (by omega)).trans j2, j1⟩
                · have hd6 : decide ((E : Int) < (b : Int)) = false := by simp; omega
                  have hd6n : decide (E < b) = false := by simp; omega
                  have HEB := Lib.hid (show E = b by omega)
                  go_wp2
                  go_end0
                  have hv := HHV.out
                  rw [HEQ2.out] at hv
                  obtain ⟨v1, v2, v3, v4, v5, v6, v7⟩ := hv
                  have hmv := rot_mv (a := I) (m := m) (b := E) (by omega) (by omega) f
                  obtain ⟨j1, j2⟩ := halves_join v7 (by omega) (by omega) G1.out T1.out (g2 := g1) (Mv.refl _ _ _) ((v4.sub (Nat.le_refl _) (by have := HEB.out; omega)).of_out fun k h1 h2 => G1.out.out k (.inr h1))
                  exact ⟨rfl, g1, HW.out, (hmv.wide (by omega) (by omega)).trans j2, j1⟩
              · have hd5 : decide ((M : Int) < (E : Int)) = false := by simp; omega
                have hd5n : decide (M < E) = false := by simp; omega
                have HEM := Lib.hid (show E = M by omega)
                go_wp2
                go_end0
                have hv := HHV.out
                rw [HEQ2.out] at hv
                obtain ⟨v1, v2, v3, v4, v5, v6, v7⟩ := hv
                have hmv := rot_mv (a := I) (m := m) (b := E) (by omega) (by omega) f
                obtain ⟨j1, j2⟩ := halves_join v7 (by omega) (by omega) G1.out T1.out (g2 := g1) (Mv.refl _ _ _) ((v5.sub (by have := HEM.out; omega) (Nat.le_refl _)).of_out fun k h1 h2 => G1.out.out k (.inr h1))
                exact ⟨rfl, g1, HW.out, (hmv.wide (by omega) (by omega)).trans j2, j1⟩
end Go.Proofs.YtbjdbpdgacfcpaaGreat
end
