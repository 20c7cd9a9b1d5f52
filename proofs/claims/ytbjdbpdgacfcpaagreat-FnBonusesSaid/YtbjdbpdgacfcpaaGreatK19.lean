/- Parts of a proof, one after another: Sort2. No condition. -/
import Derived.Test.YtbjdbpdgacfcpaaGreatK18
/- Sorting the indices: rotation and insertion. -/
section
namespace Go.Proofs.YtbjdbpdgacfcpaaGreat
open Go.RowKit Go.BigFrame

set_option maxRecDepth 20000 in
set_option maxHeartbeats 4000000 in
theorem rotate_any {B g n c : Nat} {w : World} {f : Nat → Nat} (a m b : Nat) (cf : Value) (h : SW B w w g n c f) (hn : n ≤ 1000) (ham : a < m) (hmb : m < b) (hb : b ≤ n) :
    Calls Tryz.prog 204 #[.slice (some ⟨g, 0, none⟩) n c, .int .i64 (a : Int), .int .i64 (m : Int), .int .i64 (b : Int), cf] w fun e w' => e = .returned (.tuple #[]) ∧ SW B w w' g n c (rotF a m b f) := by
  have HS := Lib.hid h; clear h
  have hbi : (b : Int) ≤ 1000 := by omega
  go_enter Tryz.func204, Tryz.ntmps204
  go_wp2
  go_loopw [10, 11] (fun i j wr => ∃ (I J : Nat) (f' : Nat → Nat), i = .int .i64 (I : Int) ∧ j = .int .i64 (J : Int) ∧ 0 < I ∧ 0 < J ∧ a + I ≤ m ∧ m + J ≤ b ∧ Hid (rotF (m - I) m (m + J) f' = rotF a m b f) ∧ Hid (SW B w wr g n c f')) (fun i j _ => (intOf i).toNat + (intOf j).toNat)
  case atStart => exact ⟨m - a, b - m, f, by congr 1; omega, by congr 1; omega, by omega, by omega, by omega, by omega, Lib.hid (by rw [show m - (m - a) = a by omega, show m + (b - m) = b by omega]), HS⟩
  case round =>
    obtain ⟨I, J, f', rfl, rfl, hI, hJ, hIm, hJb, HF, HW⟩ := hrel
    have eI : ((m - I : Nat) : Int) = (m : Int) - (I : Int) := by omega
    have eJ : ((m + J - I : Nat) : Int) = (m : Int) + (J : Int) - (I : Int) ∨ J ≤ I := by omega
    by_cases hlt : J < I
    · have hne : ((I : Int) != (J : Int)) = true := by simp; omega
      have hgt : decide ((J : Int) < (I : Int)) = true := by simp; omega
      have HC := swapRange_any (m - I) m J cf (SW.start HW.out.res) hn (by omega) (by omega)
      rw [eI] at HC
      have HC := Lib.hid HC
      clear eI eJ
      go_wp2_with (go_at_call 205; refine HC.out.mono ?_; rintro e w1 ⟨rfl, h1⟩)
      go_roundw
      case rel => exact ⟨I - J, J, _, by congr 1; omega, rfl, by omega, hJ, by omega, hJb, Lib.hid ((rot_left hlt (by omega) f').trans HF.out), Lib.hid (HW.out.trans h1)⟩
      case measure => simp [intOf]; omega
    · by_cases heq : I = J
      · have hne : ((I : Int) != (J : Int)) = false := by simp [heq]
        have HEQ := Lib.hid heq
        have HC := swapRange_any (m - I) m I cf (SW.start HW.out.res) hn (by omega) (by omega)
        rw [eI] at HC
        have HC := Lib.hid HC
        clear eI eJ heq
        go_wp2_with (go_at_call 205; refine HC.out.mono ?_; rintro e w1 ⟨rfl, h1⟩)
        go_end0
        refine ⟨rfl, ?_⟩
        rw [← HF.out, ← HEQ.out, ← rot_same (by omega)]
        exact HW.out.trans h1
      · have hne : ((I : Int) != (J : Int)) = true := by simp; omega
        have hgt : decide ((J : Int) < (I : Int)) = false := by simp; omega
        have HC := swapRange_any (m - I) (m + J - I) I cf (SW.start HW.out.res) hn (by omega) (by omega)
        rw [eI, eJ.resolve_right (by omega)] at HC
        have HC := Lib.hid HC
        have HNE := Lib.hid heq
        clear eI eJ heq
        go_wp2_with (go_at_call 205; refine HC.out.mono ?_; rintro e w1 ⟨rfl, h1⟩)
        go_roundw
        case rel => exact ⟨I, J - I, _, rfl, by congr 1; omega, hI, by have := HNE.out; omega, hIm, by omega, Lib.hid ((rot_right (by have := HNE.out; omega) (by omega) f').trans HF.out), Lib.hid (HW.out.trans h1)⟩
        case measure => simp [intOf]; omega
theorem Mv.lt {a b n m : Nat} {f f' : Nat → Nat} (h : Mv a b f f') (hb : b ≤ n) (hm : ∀ k, k < n → f k < m) : ∀ k, k < n → f' k < m := by
  intro k hk
  by_cases hk' : a ≤ k ∧ k < b
  · obtain ⟨j, _, j2, e⟩ := h.from_ k hk'.1 hk'.2
    rw [e]; exact hm j (by omega)
  · rw [h.out k (by omega)]; exact hm k hk
set_option maxRecDepth 20000 in
set_option maxHeartbeats 4000000 in
theorem insertion_any {B g n c : Nat} {w : World} {f : Nat → Nat} {q1 q2 q3 : Nat} {am s : Int} {X : Option Addr} {m xc : Nat} {ws : List Int} (a b : Nat) (C : Cm w q1 q2 q3 g am s X m xc ws) (h : SW B w w g n c f) (hn : n ≤ 1000) (hab : a ≤ b) (hb : b ≤ n)
    (hinc : ∀ p q, a ≤ p → p < q → q < b → f p < f q) (hm : ∀ k, k < n → f k < m) :
    Calls Tryz.prog 201 #[.slice (some ⟨g, 0, none⟩) n c, .int .i64 (a : Int), .int .i64 (b : Int), .func (.func 186) #[] #[.pointer (some ⟨q1, 0, none⟩), .pointer (some ⟨q2, 0, none⟩), .pointer (some ⟨q3, 0, none⟩)]] w
      fun e w' => e = .returned (.tuple #[]) ∧ ∃ f', SW B w w' g n c f' ∧ Mv a b f f' ∧ Srt (rests am s ws) f' a b := by
  have HS := Lib.hid h; clear h
  have HC := Lib.hid C; clear C
  have HI := Lib.hid hinc; clear hinc
  have HM := Lib.hid hm; clear hm
  have hbi : (b : Int) ≤ 1000 := by omega
  have hai : (a : Int) ≤ 1000 := by omega
  go_enter Tryz.func201, Tryz.ntmps201
  go_wp2
  go_loopw [8] (fun i wr => ∃ (I : Nat) (f' : Nat → Nat), i = .int .i64 (I : Int) ∧ a + 1 ≤ I ∧ I ≤ b + 1 ∧ Hid (Ins (rests am s ws) a b I f f') ∧ Hid (SW B w wr g n c f')) (fun i _ => b + 1 - (intOf i).toNat)
  case atStart => exact ⟨a + 1, f, by go_num, Nat.le_refl _, by omega, Lib.hid (Ins.start HI.out), HS⟩
  case round =>
    obtain ⟨I, f1, rfl, hI, hIb, HIN, HW⟩ := hrel
    by_cases hlt : ¬ I < b
    · have hni : ¬ (I : Int) < (b : Int) := by omega
      go_wp2
      go_end0
      exact ⟨rfl, f1, HW.out, HIN.out.mv, HIN.out.srt.sub (Nat.le_refl _) (by omega)⟩
    · replace hlt : I < b := by omega
      have hli : (I : Int) < (b : Int) := by omega
      rename World => w1
      go_wp2
      go_loopw [9] (fun j wr => ∃ (J : Nat) (f' : Nat → Nat), j = .int .i64 (J : Int) ∧ a ≤ J ∧ J ≤ I ∧ Hid (Inn (rests am s ws) a b I J f f') ∧ Hid (SW B w wr g n c f')) (fun j _ => (intOf j).toNat)
      case atStart => exact ⟨I, f1, rfl, by omega, Nat.le_refl _, Lib.hid (HIN.out.inn hlt), HW⟩
      case round =>
        clear HW HIN
        obtain ⟨J, f2, rfl, hJ, hJI, HIN, HW⟩ := hrel
        rename World => w2
        have HCC := Lib.hid (HC.out.sw HW.out)
        have hJn : J < n := by omega
        have hJi : (J : Int) < (n : Int) := by omega
        by_cases hja : J = a
        · have hgd : decide ((a : Int) < (J : Int)) = false := by simp; omega
          have hgd' : decide (a < J) = false := by simp; omega
          have HJA := Lib.hid hja; clear hja
          go_wp2
          refine wp_region_past (by kernel_rfl) (by kernel_rfl) ?_
          repeat (go_big_quiet_step (fail))
          refine wpQuiet_nil ?_
          rintro _ ⟨z, rfl⟩
          go_wp2
          go_roundw
          case rel => exact ⟨I + 1, f2, by go_num, by omega, by omega, Lib.hid (HIN.out.stop (.inl HJA.out)), Lib.hid (HW.out.past z.2)⟩
          case measure => simp [intOf]; omega
        · have hja' : a < J := by omega
          have hgd : decide ((a : Int) < (J : Int)) = true := by simp; omega
          have HX1 := HIN.out.mv.lt hb HM.out J hJn
          have HX2 := HIN.out.mv.lt hb HM.out (J - 1) (by omega)
          obtain ⟨c1, z1⟩ := HW.out.cell (k := J) (by omega)
          obtain ⟨c2, z2⟩ := HW.out.cell (k := J - 1) (by omega)
          have d1 := fun z : Past w2 => Past.cell c1 z
          have d2 := fun z : Past w2 => Past.cell c2 z
          have hJ1 : (J : Int) - 1 < (n : Int) := by omega
          have hJ2 : 0 ≤ (J : Int) - 1 := by omega
          clear c1 c2 z1 z2 hja
          obtain ⟨v, hv⟩ : ∃ v, cmpV (rests am s ws) (f2 J) (f2 (J - 1)) = v := ⟨_, rfl⟩
          have HV := Lib.hid hv
          by_cases hg : Gt (rests am s ws) (f2 J) (f2 (J - 1))
          · have hvn : v < 0 := by rw [← hv]; exact cmpV_neg.2 hg
            have hvb : decide (v < 0) = true := by simpa using hvn
            have HG := Lib.hid hg; clear hv hg hvn
            go_wp2
            refine wp_region_past (by kernel_rfl) (by kernel_rfl) ?_
            repeat (go_big_quiet_step ((go_simp; go_at_call 186; exact past_call (cmp_past HCC.out HX1 HX2 HV.out _))))
            refine wpQuiet_nil ?_
            rintro _ ⟨z, rfl⟩
            have HWz := Lib.hid (HW.out.past z.2)
            clear d1 d2
            obtain ⟨c1, z1⟩ := HWz.out.cell (k := J) (by omega)
            obtain ⟨c2, z2⟩ := HWz.out.cell (k := J - 1) (by omega)
            go_wp2
            go_region
            go_wp2
            go_roundw
            case rel => exact ⟨J - 1, _, by congr 1; omega, by omega, by omega, Lib.hid (HIN.out.step hja' HG.out), Lib.hid ((HWz.out.swap hJn (by omega)).drew)⟩
            case measure => simp [intOf]; omega
          · have hvn : ¬ v < 0 := by rw [← hv]; exact fun h => hg (cmpV_neg.1 h)
            have hvb : decide (v < 0) = false := by simpa using hvn
            have HG := Lib.hid hg; clear hv hg hvn
            go_wp2
            refine wp_region_past (by kernel_rfl) (by kernel_rfl) ?_
            repeat (go_big_quiet_step ((go_simp; go_at_call 186; exact past_call (cmp_past HCC.out HX1 HX2 HV.out _))))
            refine wpQuiet_nil ?_
            rintro _ ⟨z, rfl⟩
            have HWz := Lib.hid (HW.out.past z.2)
            clear d1 d2
            go_wp2
            go_roundw
            case rel => exact ⟨I + 1, f2, by go_num, by omega, by omega, Lib.hid (HIN.out.stop (.inr HG.out)), HWz⟩
            case measure => simp [intOf]; omega
end Go.Proofs.YtbjdbpdgacfcpaaGreat
end
