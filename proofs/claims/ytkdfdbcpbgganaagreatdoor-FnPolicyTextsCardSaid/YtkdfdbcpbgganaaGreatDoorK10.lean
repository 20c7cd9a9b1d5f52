/- Parts of a proof, one after another: Damage, TextP, ParseP, StEntry, LedgP, Door, Names, JourP, ReadP. No condition. -/
import Derived.Test.YtkdfdbcpbgganaaGreatDoorK0
import Derived.Test.YtkdfdbcpbgganaaGreatDoorK1
import Derived.Test.YtkdfdbcpbgganaaGreatDoorK2
import Derived.Test.YtkdfdbcpbgganaaGreatDoorK9
import Derived.Deep.RegionHeld3
import Derived.Lib.ItoaNum
import Derived.Lib.Repeat
import Derived.Lib.ParseIntB
import Derived.Test.YtkdfdbcpbgganaaGreatDoorCards
import Derived.Test.YtkdfdbcpbgganaaGreatDoorTie
import Derived.OpenVars
import Derived.OpenShut
import Derived.Deep.DeepHandedRow
import Derived.Lib.LaidTab
import Derived.Lib.UnsafeStr
import Derived.Lib.ReplaceLaws
/- Draws of damaged texts: whatever is drawn, it is a text hardly longer, and nothing but the source turns. -/
section
namespace Go.Proofs.YtkdfdbcpbgganaaGreatDoor
open Go.RowKit Go.BigFrame

def DmgE (K : Code) (g : Nat) (w0 : World) (s : ByteArray) (w' : World) (e : Ending) : Prop := ∃ r : ByteArray, e = .returned (.string r) ∧ r.size ≤ s.size + 1 ∧ Nx K g w0 w'
def eightC : Array Value := #[.string ⟨#[48]⟩, .string ⟨#[49]⟩, .string ⟨#[32]⟩, .string ⟨#[45]⟩, .string ⟨#[44]⟩, .string ⟨#[46]⟩, .string ⟨#[10]⟩, .string ⟨#[97]⟩]
theorem eight_at {y : Nat} (h : y < 8) : ∃ x : ByteArray, eightC[y]? = some (.string x) ∧ x.size = 1 := by
  match y, h with
  | 0, _ => exact ⟨_, rfl, rfl⟩
  | 1, _ => exact ⟨_, rfl, rfl⟩
  | 2, _ => exact ⟨_, rfl, rfl⟩
  | 3, _ => exact ⟨_, rfl, rfl⟩
  | 4, _ => exact ⟨_, rfl, rfl⟩
  | 5, _ => exact ⟨_, rfl, rfl⟩
  | 6, _ => exact ⟨_, rfl, rfl⟩
  | 7, _ => exact ⟨_, rfl, rfl⟩
theorem wpAnyH_strongD {P : Program} {md : Region.Mode} {ops : Array Oper} {Q : Exit → Act → World → Prop} {S S2 : World → Prop} (h12 : ∀ w, S2 w → S w) : ∀ (fuel : Nat) (listed : Array Bool) (a : Act) (w : World), wpAnyH P md ops Q S2 fuel listed a w → wpAnyH P md ops Q S fuel listed a w
  | 0, _, _, _, h => h
  | fuel + 1, _, _, _, h => ⟨h.1, fun i hi => wpOp_mono (fun a' w' h' => ⟨h12 _ h'.1, wpAnyH_strongD h12 fuel _ a' w' h'.2⟩) (h.2 i hi)⟩
theorem size3 (a b c : ByteArray) : (a ++ b ++ c).size = a.size + b.size + c.size := by rw [ByteArray.size_append, ByteArray.size_append]
set_option maxHeartbeats 4000000 in
set_option maxRecDepth 100000 in
theorem spec_l01Damage_any (K : Code) (hK : K.Ok) (g : Nat) (w0 : World) (s : ByteArray) (hs : s.size ≤ 1000000) (w : World) (hT : Nx K g w0 w) :
    Calls Tryz.prog 44 #[.pointer (some ⟨g, 0, none⟩), .string s] w fun e w' => DmgE K g w0 s w' e := by
  go_enter Tryz.func44, Tryz.ntmps44
  go_wp2_with fail
  refine (spec_l01Next_any K hK g _ _ _ hT).mono ?_
  rintro e w3 ⟨x, rfl, ⟨hx0, hx1⟩, hT1⟩
  obtain ⟨k, rfl⟩ := Int.eq_ofNat_of_zero_le hx0
  have hks : k ≤ s.size := by omega
  clear hT hx0 hx1
  go_wp2_with fail
  refine (spec_l01Next_any K hK g _ _ _ hT1).mono ?_
  rintro e w4 ⟨y, rfl, ⟨hy0, hy1⟩, hT⟩
  clear hT1
  have hz1 : (s.extract 0 k).size = k := by rw [ByteArray.size_extract]; omega
  have hz2 : (s.extract k s.size).size = s.size - k := by rw [ByteArray.size_extract]; omega
  have HT := Lib.hid hT; clear hT
  rcases (show y = 0 ∨ y = 1 ∨ y = 2 ∨ (y ≠ 0 ∧ y ≠ 1 ∧ y ≠ 2) by omega) with rfl | rfl | rfl | ⟨y0, y1, y2⟩
  · go_wp2
    go_ret
    exact ⟨_, rfl, by omega, HT.out⟩
  · have hg4 := HT.out.src.lt
    have u1 : ¬ 9223372036854775807 < (s.extract 0 k).size + 1 := by omega
    have u2 : ¬ 9223372036854775807 < (s.extract 0 k).size + 1 + (s.extract k s.size).size := by omega
    go_wp2
    -- BY HAND
    refine wp_region_held_drew (S := fun w' => Nx K g w0 w') (by kernel_rfl) (HT.out.drew) (fun hHeld => ?_)
    refine wpAnyH_take (i := 0) (oi := _) (v := .string s) rfl (by kernel_rfl) (by kernel_rfl) (by kernel_rfl) (fun _ _ _ h => h) (Or.inl ⟨by rfl, ?_⟩) hHeld ?_
    · intro u hSu
      go_simp
      all_goals first | omega | (intro hh; omega)
    simp only [Act.put, List.setIfInBounds_toArray]
    refine wpAnyH_take (i := 1) (oi := _) (v := .int .i64 (k : Int)) rfl (by kernel_rfl) (by kernel_rfl) (by kernel_rfl) (fun _ _ _ h => h) (Or.inl ⟨by rfl, ?_⟩) hHeld ?_
    · intro u hSu
      go_simp
      all_goals first | omega | (intro hh; omega)
    simp only [Act.put]
    refine wpAnyH_take (i := 2) (oi := _) (v := .string (s.extract 0 k)) rfl (by kernel_rfl) (by kernel_rfl) (by kernel_rfl) (fun _ _ _ h => h) (Or.inl ⟨by rfl, ?_⟩) hHeld ?_
    · intro u hSu
      go_simp
      all_goals first | omega | (intro hh; omega)
    simp only [Act.put]
    refine wpAnyH_take (i := 4) (oi := _) (v := .pointer (some ⟨g, 0, none⟩)) rfl (by kernel_rfl) (by kernel_rfl) (by kernel_rfl) (fun _ _ _ h => h) (Or.inl ⟨by rfl, ?_⟩) hHeld ?_
    · intro u hSu
      go_simp
      all_goals first | omega | (intro hh; omega)
    simp only [Act.put]
    refine wpAnyH_take (i := 9) (oi := _) (v := .string s) rfl (by kernel_rfl) (by kernel_rfl) (by kernel_rfl) (fun _ _ _ h => h) (Or.inl ⟨by rfl, ?_⟩) hHeld ?_
    · intro u hSu
      go_simp
      all_goals first | omega | (intro hh; omega)
    simp only [Act.put]
    refine wpAnyH_take (i := 10) (oi := _) (v := .int .i64 (k : Int)) rfl (by kernel_rfl) (by kernel_rfl) (by kernel_rfl) (fun _ _ _ h => h) (Or.inl ⟨by rfl, ?_⟩) hHeld ?_
    · intro u hSu
      go_simp
      all_goals first | omega | (intro hh; omega)
    simp only [Act.put]
    refine wpAnyH_take (i := 11) (oi := _) (v := .string (s.extract k s.size)) rfl (by kernel_rfl) (by kernel_rfl) (by kernel_rfl) (fun _ _ _ h => h) (Or.inl ⟨by rfl, ?_⟩) hHeld ?_
    · intro u hSu
      go_simp
      all_goals first | omega | (intro hh; omega)
    simp only [Act.put]
    refine wpAnyH_ready (rs := [3, 5]) (by kernel_rfl) (by simp) ?_
    refine AllReadyH.cons (o := _) rfl (fun K1 hK1 => ?_) (AllReadyH.cons (o := _) rfl (fun K1 hK1 => ?_) AllReadyH.nil)
    · go_simp
      refine hK1.out _ _ ?_ (fun hHeld => ?_)
      · exact HT.out.drew.alloc _
      clear hK1 K1
      refine wpAnyH_ready (rs := [5]) (by kernel_rfl) (by simp) ?_
      refine AllReadyH.cons (o := _) rfl (fun K1 hK1 => ?_) AllReadyH.nil
      go_simp
      have hTc := HT.out.drew.alloc (.cells eightC 9)
      refine (spec_l01Next_any K hK g _ _ _ (Nx.refl hTc.src)).mono ?_
      rintro e w6 ⟨z, rfl, ⟨hz0, hz1⟩, hN⟩
      obtain ⟨y, rfl⟩ := Int.eq_ofNat_of_zero_le hz0
      have hy8 : y < 8 := by omega
      obtain ⟨x1, hx1, hxs⟩ := eight_at hy8
      have HT6 := Lib.hid (hTc.trans hN)
      rw [← hxs] at u1 u2
      have hcA : w6.cell? ⟨w4.heap.size, y, none⟩ = some (.string x1) := by
        have hq := (Blk.new w4.drew 9 eightC).nx hN (Nat.ne_of_gt hg4)
        have hq2 := hq.cell y
        rw [hx1] at hq2
        exact hq2
      refine hK1.out _ _ ?_ (fun hHeld => ?_)
      · exact HT6.out
      clear hK1 K1
      refine wpAnyH_strongD (S2 := fun w' => Nx K g w0 w' ∧ w'.cell? ⟨w4.heap.size, y, none⟩ = some (.string x1)) (fun _ h => h.1) _ _ _ _ ?_
      replace hHeld := (show (fun w' => Nx K g w0 w' ∧ w'.cell? ⟨w4.heap.size, y, none⟩ = some (.string x1)) _ from ⟨HT6.out, hcA⟩)
      refine wpAnyH_take (i := 6) (oi := _) (v := .pointer (some ⟨w4.heap.size, y, none⟩)) rfl (by kernel_rfl) (by kernel_rfl) (by kernel_rfl) (fun _ _ _ h => h) (Or.inl ⟨by rfl, ?_⟩) hHeld ?_
      · intro u hSu
        go_simp
        all_goals first | omega | (intro hh; omega)
      simp only [Act.put, List.setIfInBounds_toArray]
      refine wpAnyH_take (i := 7) (oi := _) (v := .string x1) rfl (by kernel_rfl) (by kernel_rfl) (by kernel_rfl) (fun _ _ _ h => h) (Or.inl ⟨by rfl, ?_⟩) hHeld ?_
      · intro u hSu
        go_simp
        all_goals first | omega | (intro hh; omega)
      simp only [Act.put]
      refine wpAnyH_take (i := 8) (oi := _) (v := .string (s.extract 0 k ++ x1)) rfl (by kernel_rfl) (by kernel_rfl) (by kernel_rfl) (fun _ _ _ h => h) (Or.inl ⟨by rfl, ?_⟩) hHeld ?_
      · intro u hSu
        go_simp
        all_goals first | omega | (intro hh; omega)
      simp only [Act.put]
      refine wpAnyH_take (i := 12) (oi := _) (v := .string (s.extract 0 k ++ x1 ++ s.extract k s.size)) rfl (by kernel_rfl) (by kernel_rfl) (by kernel_rfl) (fun _ _ _ h => h) (Or.inl ⟨by rfl, ?_⟩) hHeld ?_
      · intro u hSu
        go_simp
        all_goals first | omega | (intro hh; omega)
      simp only [Act.put]
      refine wpAnyH_ready (rs := [13]) (by kernel_rfl) (by simp) ?_
      refine AllReadyH.cons (o := _) rfl (fun K2 hK2 => ?_) AllReadyH.nil
      go_simp
      refine hK2.out _ _ ?_ (fun _ => ?_)
      · exact ⟨HT6.out, hcA⟩
      clear hK2 K2
      refine wpAnyH_done (by kernel_rfl) ?_ _
      go_wp2
      go_ret
      exact ⟨_, rfl, by rw [size3]; omega, HT6.out⟩
    · skip
      go_simp
      have hTc := HT.out.drew
      refine (spec_l01Next_any K hK g _ _ _ (Nx.refl hTc.src)).mono ?_
      rintro e w6 ⟨z, rfl, ⟨hz0, hz1⟩, hN⟩
      obtain ⟨y, rfl⟩ := Int.eq_ofNat_of_zero_le hz0
      have hy8 : y < 8 := by omega
      obtain ⟨x1, hx1, hxs⟩ := eight_at hy8
      have HT6 := Lib.hid (hTc.trans hN)
      rw [← hxs] at u1 u2
      refine hK1.out _ _ ?_ (fun hHeld => ?_)
      · exact HT6.out
      clear hK1 K1
      refine wpAnyH_ready (rs := [3]) (by kernel_rfl) (by simp) ?_
      refine AllReadyH.cons (o := _) rfl (fun K1 hK1 => ?_) AllReadyH.nil
      go_simp
      have HT7 := Lib.hid (HT6.out.alloc (.cells eightC 9))
      have hcA : (w6.alloc (.cells eightC 9)).cell? ⟨w6.heap.size, y, none⟩ = some (.string x1) := by rw [(Blk.new w6 _ _).cell, hx1]
      refine hK1.out _ _ ?_ (fun hHeld => ?_)
      · exact HT7.out
      clear hK1 K1
      refine wpAnyH_strongD (S2 := fun w' => Nx K g w0 w' ∧ w'.cell? ⟨w6.heap.size, y, none⟩ = some (.string x1)) (fun _ h => h.1) _ _ _ _ ?_
      replace hHeld := (show (fun w' => Nx K g w0 w' ∧ w'.cell? ⟨w6.heap.size, y, none⟩ = some (.string x1)) _ from ⟨HT7.out, hcA⟩)
      refine wpAnyH_take (i := 6) (oi := _) (v := .pointer (some ⟨w6.heap.size, y, none⟩)) rfl (by kernel_rfl) (by kernel_rfl) (by kernel_rfl) (fun _ _ _ h => h) (Or.inl ⟨by rfl, ?_⟩) hHeld ?_
      · intro u hSu
        go_simp
        all_goals first | omega | (intro hh; omega)
      simp only [Act.put, List.setIfInBounds_toArray]
      refine wpAnyH_take (i := 7) (oi := _) (v := .string x1) rfl (by kernel_rfl) (by kernel_rfl) (by kernel_rfl) (fun _ _ _ h => h) (Or.inl ⟨by rfl, ?_⟩) hHeld ?_
      · intro u hSu
        go_simp
        all_goals first | omega | (intro hh; omega)
      simp only [Act.put]
      refine wpAnyH_take (i := 8) (oi := _) (v := .string (s.extract 0 k ++ x1)) rfl (by kernel_rfl) (by kernel_rfl) (by kernel_rfl) (fun _ _ _ h => h) (Or.inl ⟨by rfl, ?_⟩) hHeld ?_
      · intro u hSu
        go_simp
        all_goals first | omega | (intro hh; omega)
      simp only [Act.put]
      refine wpAnyH_take (i := 12) (oi := _) (v := .string (s.extract 0 k ++ x1 ++ s.extract k s.size)) rfl (by kernel_rfl) (by kernel_rfl) (by kernel_rfl) (fun _ _ _ h => h) (Or.inl ⟨by rfl, ?_⟩) hHeld ?_
      · intro u hSu
        go_simp
        all_goals first | omega | (intro hh; omega)
      simp only [Act.put]
      refine wpAnyH_ready (rs := [13]) (by kernel_rfl) (by simp) ?_
      refine AllReadyH.cons (o := _) rfl (fun K2 hK2 => ?_) AllReadyH.nil
      go_simp
      refine hK2.out _ _ ?_ (fun _ => ?_)
      · exact ⟨HT7.out, hcA⟩
      clear hK2 K2
      refine wpAnyH_done (by kernel_rfl) ?_ _
      go_wp2
      go_ret
      exact ⟨_, rfl, by rw [size3]; omega, HT7.out⟩
  · by_cases hk2 : k < s.size
    · have hz3 : (s.extract (k + 1) s.size).size = s.size - (k + 1) := by rw [ByteArray.size_extract]; omega
      have hki : (k : Int) < (s.size : Int) := by omega
      go_wp2
      go_region
      go_wp2
      go_ret
      exact ⟨_, rfl, by rw [ByteArray.size_append]; omega, HT.out.drew⟩
    · have hki : ¬ (k : Int) < (s.size : Int) := by omega
      go_wp2
      go_ret
      exact ⟨_, rfl, by omega, HT.out⟩
  · go_wp2
    go_ret
    exact ⟨_, rfl, by omega, HT.out⟩
end Go.Proofs.YtkdfdbcpbgganaaGreatDoor
end

/- Texts of numbers: decimal digits, digits up to a length, months, money: plain functions and their laws. -/
section
namespace Go.Proofs.YtkdfdbcpbgganaaGreatDoor
open Go.RowKit Go.BigFrame

/-- a string of bytes -/
def S (l : List UInt8) : ByteArray := ⟨l.toArray⟩
theorem S_append (a b : List UInt8) : S a ++ S b = S (a ++ b) := by
  apply ByteArray.ext
  simp [S, ByteArray.data_append]
theorem S_size (l : List UInt8) : (S l).size = l.length := by simp [S, ByteArray.size]
theorem S_list (l : List UInt8) : (S l).data.toList = l := by simp [S]
theorem S_of (s : ByteArray) : S s.data.toList = s := by simp [S]
theorem S_inj {a b : List UInt8} (h : S a = S b) : a = b := by
  have := congrArg (fun s => s.data.toList) h
  simpa [S] using this
def dg (n : Nat) : UInt8 := UInt8.ofNat (48 + n)
def decL (n : Int) : List UInt8 := Lib.decDigits n.toNat
theorem dec_small {n : Nat} (h : n < 10) : Lib.decDigits n = [dg n] := Lib.decDigits_one h
theorem dec_big {n : Nat} (h : ¬ n < 10) : Lib.decDigits n = Lib.decDigits (n / 10) ++ [dg (n % 10)] := by rw [Lib.decDigits, dif_neg h]; rfl
theorem dec_pos (n : Nat) : 1 ≤ (Lib.decDigits n).length := by rw [Lib.decDigits_length]; exact Lib.nDigits_pos n
theorem itoa_pos {n : Int} (h : 0 ≤ n) : Lib.itoa n = decL n := by unfold Lib.itoa decL; rw [if_neg (by omega)]
/-- zeros ahead, up to a length -/
def padL (k : Nat) (l : List UInt8) : List UInt8 := List.replicate (k - l.length) 48 ++ l
theorem pad_one (n : Nat) : padL 1 (Lib.decDigits n) = Lib.decDigits n := by
  have := dec_pos n
  unfold padL
  rw [show 1 - (Lib.decDigits n).length = 0 by omega]; rfl
theorem pad_succ (k n : Nat) : padL (k + 2) (Lib.decDigits n) = padL (k + 1) (Lib.decDigits (n / 10)) ++ [dg (n % 10)] := by
  unfold padL
  by_cases h : n < 10
  · rw [dec_small h, show n / 10 = 0 by omega, dec_small (show 0 < 10 by omega), Nat.mod_eq_of_lt h]
    simp only [List.length_cons, List.length_nil, List.append_assoc]
    rw [show k + 2 - (0 + 1) = k + 1 by omega, show k + 1 - (0 + 1) = k by omega, List.replicate_succ']
    simp [dg]
  · rw [dec_big h]
    simp only [List.length_append, List.length_cons, List.length_nil]
    rw [show k + 2 - ((Lib.decDigits (n / 10)).length + (0 + 1)) = k + 1 - (Lib.decDigits (n / 10)).length by omega, List.append_assoc]
theorem pad_two {n : Nat} (h : n < 100) : padL 2 (Lib.decDigits n) = [dg (n / 10), dg (n % 10)] := by
  rw [pad_succ 0 n, pad_one, dec_small (by omega)]; rfl
theorem pad_four {n : Nat} (h : n < 10000) : padL 4 (Lib.decDigits n) = [dg (n / 1000), dg (n / 100 % 10), dg (n / 10 % 10), dg (n % 10)] := by
  rw [pad_succ 2 n, pad_succ 1, pad_two (by omega), show n / 10 / 10 / 10 = n / 1000 by omega, show n / 10 / 10 % 10 = n / 100 % 10 by omega]
  rfl
def monthL (n : Int) : List UInt8 := padL 4 (decL (n / 12)) ++ [45] ++ padL 2 (decL (n % 12 + 1))
theorem month_eq {n : Nat} (h : n < 36000) : monthL (n : Int) = [dg (n / 12 / 1000), dg (n / 12 / 100 % 10), dg (n / 12 / 10 % 10), dg (n / 12 % 10), 45, dg ((n % 12 + 1) / 10), dg ((n % 12 + 1) % 10)] := by
  unfold monthL decL
  rw [show ((n : Int) / 12).toNat = n / 12 by omega, show ((n : Int) % 12 + 1).toNat = n % 12 + 1 by omega, pad_four (by omega), pad_two (by omega)]
  rfl
/-- the text of money of at least 0 -/
def moneyP (n : Int) : List UInt8 := decL (n / 100) ++ [46] ++ padL 2 (decL (n % 100))
def moneyL (n : Int) : List UInt8 := if n < 0 then 45 :: moneyP (-n) else moneyP n
theorem money_eq (n : Nat) : moneyP (n : Int) = Lib.decDigits (n / 100) ++ [46, dg (n / 10 % 10), dg (n % 10)] := by
  unfold moneyP decL
  rw [show ((n : Int) / 100).toNat = n / 100 by omega, show ((n : Int) % 100).toNat = n % 100 by omega, pad_two (by omega), List.append_assoc]
  rw [show n % 100 / 10 = n / 10 % 10 by omega, show n % 100 % 10 = n % 10 by omega]
  rfl
def monthT (n : Int) : List UInt8 := if 0 ≤ n ∧ n ≤ 35999 then monthL n else []
def moneyT (n : Int) : List UInt8 := if -1000000000000 ≤ n ∧ n ≤ 1000000000000 then moneyL n else []
theorem monthT_yes {n : Int} (h : 0 ≤ n ∧ n ≤ 35999) : monthT n = monthL n := if_pos h
theorem monthT_no {n : Int} (h : ¬ (0 ≤ n ∧ n ≤ 35999)) : monthT n = [] := if_neg h
theorem moneyT_yes {n : Int} (h : -1000000000000 ≤ n ∧ n ≤ 1000000000000) : moneyT n = moneyL n := if_pos h
theorem moneyT_no {n : Int} (h : ¬ (-1000000000000 ≤ n ∧ n ≤ 1000000000000)) : moneyT n = [] := if_neg h
theorem repeat48 : ∀ c : Nat, Lib.repeatL [48] c = List.replicate c 48
  | 0 => rfl
  | c + 1 => by rw [Lib.repeatL, repeat48 c, List.replicate_succ]; rfl
theorem dec_len {n k : Nat} (hk : 1 ≤ k) (h : n < 10 ^ k) : (Lib.decDigits n).length ≤ k := by
  rw [Lib.decDigits_length]
  induction k generalizing n with
  | zero => omega
  | succ k ih =>
    by_cases h1 : n < 10
    · rw [Lib.nDigits_small h1]; omega
    · rw [Lib.nDigits_big h1]
      rcases Nat.eq_zero_or_pos k with h0 | h0
      · subst h0; simp at h; omega
      · have := ih h0 (n := n / 10) (by rw [Nat.pow_succ] at h; omega)
        omega
theorem pad_len {n : Int} {k : Nat} (hn : n ≤ 1000000000000000) : (S (padL k (decL n))).size ≤ k + 17 := by
  have h := dec_len (n := n.toNat) (k := 17) (by omega) (by omega)
  rw [S_size]
  unfold padL decL
  simp only [List.length_append, List.length_replicate]
  omega
theorem decS_len {n : Int} (hn : n ≤ 1000000000000000) : (S (decL n)).size ≤ 17 := by
  have h := dec_len (n := n.toNat) (k := 17) (by omega) (by omega)
  rw [S_size]
  exact h
theorem monthL_len (n : Int) (h : 0 ≤ n ∧ n ≤ 35999) : (monthL n).length = 7 := by
  obtain ⟨m, rfl⟩ := Int.eq_ofNat_of_zero_le h.1
  rw [month_eq (by omega)]; rfl
theorem moneyL_len {n : Int} (h : -1000000000000 ≤ n ∧ n ≤ 1000000000000) : (moneyL n).length ≤ 30 := by
  have hp : ∀ m : Int, 0 ≤ m → m ≤ 1000000000000 → (moneyP m).length ≤ 20 := fun m h1 h2 => by
    obtain ⟨k, rfl⟩ := Int.eq_ofNat_of_zero_le h1
    have h := dec_len (n := k / 100) (k := 17) (by omega) (by omega)
    rw [money_eq]
    simp only [List.length_append, List.length_cons, List.length_nil]
    omega
  unfold moneyL
  split
  · have := hp (-n) (by omega) (by omega)
    simp only [List.length_cons]; omega
  · have := hp n (by omega) (by omega)
    omega
end Go.Proofs.YtkdfdbcpbgganaaGreatDoor
end

/- Texts of numbers are read: what ParseInt makes of digits. No program in sight. -/
section
namespace Go.Proofs.YtkdfdbcpbgganaaGreatDoor
open Go.RowKit Go.BigFrame

def DigitsL (l : List UInt8) : Prop := ∀ c ∈ l, 48 ≤ c.toNat ∧ c.toNat ≤ 57
def valL (acc : Nat) (l : List UInt8) : Nat := l.foldl (fun a c => a * 10 + (c.toNat - 48)) acc
theorem valL_ge : ∀ (l : List UInt8) (acc : Nat), acc ≤ valL acc l
  | [], acc => Nat.le_refl _
  | c :: r, acc => by
    have := valL_ge r (acc * 10 + (c.toNat - 48))
    show acc ≤ valL (acc * 10 + (c.toNat - 48)) r
    omega
theorem valL_append (a b : List UInt8) (acc : Nat) : valL acc (a ++ b) = valL (valL acc a) b := by simp [valL]
theorem dg_toNat {n : Nat} (h : n < 10) : (dg n).toNat = 48 + n := by unfold dg; rw [UInt8.toNat_ofNat']; omega
theorem dg_digit {n : Nat} (h : n < 10) : 48 ≤ (dg n).toNat ∧ (dg n).toNat ≤ 57 := by rw [dg_toNat h]; omega
theorem dec_digits (n : Nat) : DigitsL (Lib.decDigits n) ∧ valL 0 (Lib.decDigits n) = n := by
  induction n using Nat.strongRecOn with
  | _ n ih =>
    by_cases h : n < 10
    · rw [dec_small h]
      refine ⟨fun c hc => by simp at hc; subst hc; exact dg_digit h, ?_⟩
      show 0 * 10 + ((dg n).toNat - 48) = n
      rw [dg_toNat h]; omega
    · obtain ⟨h1, h2⟩ := ih (n / 10) (by omega)
      rw [dec_big h]
      refine ⟨fun c hc => ?_, ?_⟩
      · rcases List.mem_append.1 hc with h' | h'
        · exact h1 c h'
        · simp at h'; subst h'; exact dg_digit (by omega)
      · rw [valL_append, h2]
        show n / 10 * 10 + ((dg (n % 10)).toNat - 48) = n
        rw [dg_toNat (by omega)]; omega
theorem valL_zeros : ∀ k : Nat, valL 0 (List.replicate k 48) = 0
  | 0 => rfl
  | k + 1 => valL_zeros k
theorem pad_digits (k n : Nat) : DigitsL (padL k (Lib.decDigits n)) ∧ valL 0 (padL k (Lib.decDigits n)) = n := by
  obtain ⟨h1, h2⟩ := dec_digits n
  refine ⟨fun c hc => ?_, ?_⟩
  · rcases List.mem_append.1 hc with h' | h'
    · have := List.eq_of_mem_replicate h'
      subst this; decide
    · exact h1 c h'
  · rw [padL, valL_append, valL_zeros, h2]
theorem parseM_digits (M : Nat) (hM : 1000000000000000000 ≤ M) : ∀ (l : List UInt8) (acc : Nat), DigitsL l → valL acc l ≤ 1000000000000000000 → Lib.parseUintM M acc l = .ok (valL acc l)
  | [], acc, _, _ => rfl
  | c :: r, acc, h, hv => by
    have hc := h c (by simp)
    have hg := valL_ge r (acc * 10 + (c.toNat - 48))
    have hv' : valL (acc * 10 + (c.toNat - 48)) r ≤ 1000000000000000000 := hv
    rw [Lib.parseUintM, if_pos hc, if_neg (by omega), if_neg (by omega)]
    exact parseM_digits M hM r _ (fun x hx => h x (by simp [hx])) hv'
theorem parseInt_digits {l : List UInt8} (hne : l ≠ []) (hd : DigitsL l) (hv : valL 0 l ≤ 1000000000000000000) : Lib.parseIntB 64 l = .ok ((valL 0 l : Nat) : Int) := by
  match l, hne with
  | c :: r, _ =>
    have hc := hd c (by simp)
    have hp := parseM_digits (2 ^ 64 - 1) (by decide) (c :: r) 0 hd hv
    unfold Lib.parseIntB
    simp only
    rw [if_neg (show ¬ (c.toNat = 43 ∨ c.toNat = 45) by omega)]
    unfold Lib.parseUintB
    rw [if_neg (by simp), hp]
    simp only
    rw [if_neg (by intro hh; have := hh.2; simp at this; omega), if_neg (by intro hh; omega), if_neg (by omega)]
theorem parseInt_in : ∀ {l : List UInt8} {v : Int}, Lib.parseIntB 64 l = .ok v → In64 v
  | [], v, h => by cases h
  | c :: r, v, h => by
    unfold Lib.parseIntB at h
    simp only at h
    revert h
    generalize Lib.parseUintB 64 (if c.toNat = 43 ∨ c.toNat = 45 then r else c :: r) = q
    intro h
    match q, h with
    | .ok u, h =>
      simp only at h
      split at h
      · cases h
      · rename_i h1
        split at h
        · cases h
        · rename_i h2
          injection h with h
          subst h
          unfold In64
          split
          · rename_i h3
            have : u ≤ 2 ^ 63 := by
              rcases Nat.lt_or_ge (2 ^ 63) u with h4 | h4
              · exact absurd ⟨h3, h4⟩ h2
              · exact h4
            omega
          · rename_i h3
            have : u < 2 ^ 63 := by
              rcases Nat.lt_or_ge u (2 ^ 63) with h4 | h4
              · exact h4
              · exact absurd ⟨h3, h4⟩ h1
            omega
theorem intSat_in (l : List UInt8) : In64 (Lib.intSat 64 l) := by unfold Lib.intSat In64; split <;> simp
theorem str_ne {a b : ByteArray} (h : ¬ a = b) : (a.toList == b.toList) = false := by
  rw [ByteArray.toList_eq, ByteArray.toList_eq]
  refine beq_eq_false_iff_ne.2 fun hh => h ?_
  rw [← S_of a, ← S_of b, hh]
theorem str_eq {a b : ByteArray} (h : a = b) : (a.toList == b.toList) = true := by subst h; simp
end Go.Proofs.YtkdfdbcpbgganaaGreatDoor
end

/- The helper functions of the laws for Entry: a copy, a comparison, marks. Each contract holds for every argument of the stated shape. -/
section
namespace Go.Proofs.YtkdfdbcpbgganaaGreatDoor
open Go.RowKit Go.Deep Go.BigFrame

structure Entry where
  month : Int
  debit : Int
  credit : Int
  amount : Int
def Entry.row (r : Entry) : List Value := [.int .i64 r.month, .int .i64 r.debit, .int .i64 r.credit, .int .i64 r.amount]
def entryRows (xs : List Entry) : List (List Value) := xs.map Entry.row
theorem entryRows_get {xs : List Entry} {k : Nat} {x : Entry} (h : xs[k]? = some x) : (entryRows xs)[k]? = some x.row := by simp [entryRows, h]
theorem entryRows_length (xs : List Entry) : (entryRows xs).length = xs.length := by simp [entryRows]
theorem entryRows_all (xs : List Entry) : ∀ r ∈ entryRows xs, r.length = 4 := by
  intro r hr; obtain ⟨x, _, rfl⟩ := List.mem_map.1 hr; rfl
theorem Entry.oneCell (x : Entry) : ∀ v ∈ x.row, v.oneCell' = true := by simp [Entry.row, Value.oneCell']
theorem Entry.cells {x : Entry} {w : World} {p : Addr} (hc : ∀ (j : Nat) (v : Value), x.row[j]? = some v → w.cell? (p.add j) = some v) : w.cell? p = some (.int .i64 x.month) ∧ w.cell? ⟨p.block, p.off + 1, none⟩ = some (.int .i64 x.debit) ∧ w.cell? ⟨p.block, p.off + 2, none⟩ = some (.int .i64 x.credit) ∧ w.cell? ⟨p.block, p.off + 3, none⟩ = some (.int .i64 x.amount) := by
  refine ⟨by have := hc 0 _ rfl; rwa [Addr.add_zero'] at this, hc 1 _ rfl, hc 2 _ rfl, hc 3 _ rfl⟩
def Entry.fits (x : Entry) : Prop := In64 x.month ∧ In64 x.debit ∧ In64 x.credit ∧ In64 x.amount
theorem Entry.of_nums : ∀ (rows : List (List Int)), (∀ r ∈ rows, r.length = 4 ∧ ∀ z ∈ r, In64 z) → ∃ xs : List Entry, xs.length = rows.length ∧ entryRows xs = numRows rows ∧ ∀ x ∈ xs, x.fits
  | [], _ => ⟨[], rfl, rfl, by simp⟩
  | q :: rest, h => by
    obtain ⟨xs, hl, hr, hf⟩ := Entry.of_nums rest fun r hr => h r (by simp [hr])
    obtain ⟨hq, hz⟩ := h q (by simp)
    match q, hq with
    | [z0, z1, z2, z3], _ =>
      refine ⟨⟨z0, z1, z2, z3⟩ :: xs, by simp [hl], by rw [entryRows, List.map_cons, numRows, List.map_cons, ← numRows, ← hr]; rfl, fun x hx => ?_⟩
      rcases List.mem_cons.1 hx with rfl | hx
      · exact ⟨hz z0 (by simp), hz z1 (by simp), hz z2 (by simp), hz z3 (by simp)⟩
      · exact hf x hx
theorem Entry.of_num {zs : List Int} (hl : zs.length = 4) (hz : ∀ z ∈ zs, In64 z) : ∃ x : Entry, (zs.map (Value.int .i64)).toArray = x.row.toArray ∧ x.fits := by
  match zs, hl with
  | [z0, z1, z2, z3], _ => exact ⟨⟨z0, z1, z2, z3⟩, rfl, hz z0 (by simp), hz z1 (by simp), hz z2 (by simp), hz z3 (by simp)⟩









end Go.Proofs.YtkdfdbcpbgganaaGreatDoor
end

/- Plain facts on ledgers: sums of amounts, months in order. No program in sight. -/
section
namespace Go.Proofs.YtkdfdbcpbgganaaGreatDoor

def entryB (e : Entry) : Bool := inR e.month 0 35999 && (inR e.debit 0 9 && (inR e.credit 0 9 && (e.debit != e.credit && inR e.amount 1 1000000000)))
def monthAt (xs : List Entry) (i : Nat) : Int := ((xs[i]?).map Entry.month).getD 0
def okAt (xs : List Entry) (i : Nat) : Bool := match xs[i]? with
  | none => true
  | some e => entryB e && (i == 0 || decide (monthAt xs (i - 1) ≤ e.month))
def ledgerB (xs : List Entry) : Bool := decide (xs.length ≤ 150) && (List.range xs.length).all (okAt xs)

theorem okAt_yes {xs : List Entry} {k : Nat} {x : Entry} (hx : xs[k]? = some x) (he : entryB x = true) (hm : k = 0 ∨ monthAt xs (k - 1) ≤ x.month) : okAt xs k = true := by
  simp only [okAt, hx, he, Bool.true_and, Bool.or_eq_true, beq_iff_eq, decide_eq_true_eq]; exact hm
theorem okAt_no {xs : List Entry} {k : Nat} {x : Entry} (hx : xs[k]? = some x) (h : entryB x = false ∨ (k ≠ 0 ∧ x.month < monthAt xs (k - 1))) : okAt xs k = false := by
  simp only [okAt, hx]
  rcases h with h | ⟨h1, h2⟩
  · simp [h]
  · simp [h1]; intro _; omega
theorem range_succ_all {p : Nat → Bool} {k : Nat} (h : (List.range k).all p = true) (hp : p k = true) : (List.range (k + 1)).all p = true := by
  rw [List.range_succ]; simp [h, hp]
theorem range_stop {p : Nat → Bool} {k n : Nat} (hk : k < n) (hp : p k = false) : (List.range n).all p = false := by
  rw [List.all_eq_false]; exact ⟨k, by simpa using hk, by simp [hp]⟩
theorem ledgerB_no {xs : List Entry} {k : Nat} (hk : k < xs.length) (hp : okAt xs k = false) : ledgerB xs = false := by
  rw [ledgerB, range_stop hk hp]; simp
theorem monthAt_of {xs : List Entry} {k : Nat} {x : Entry} (hx : xs[k]? = some x) : monthAt xs k = x.month := by simp [monthAt, hx]

/-- what a ledger is -/
theorem ledger_len {xs : List Entry} (h : ledgerB xs = true) : xs.length ≤ 150 := by
  simp only [ledgerB, Bool.and_eq_true, decide_eq_true_eq] at h; exact h.1
theorem ledger_ok {xs : List Entry} (h : ledgerB xs = true) {k : Nat} (hk : k < xs.length) : okAt xs k = true := by
  simp only [ledgerB, Bool.and_eq_true] at h
  exact List.all_eq_true.1 h.2 k (by simpa using hk)
theorem ledger_entry {xs : List Entry} (h : ledgerB xs = true) {x : Entry} (hx : x ∈ xs) : entryB x = true := by
  obtain ⟨k, hk⟩ := List.mem_iff_getElem?.1 hx
  have := ledger_ok h (List.getElem?_eq_some_iff.1 hk).1
  simp only [okAt, hk, Bool.and_eq_true] at this
  exact this.1
theorem ledger_step {xs : List Entry} (h : ledgerB xs = true) {k : Nat} {x y : Entry} (hx : xs[k]? = some x) (hy : xs[k + 1]? = some y) : x.month ≤ y.month := by
  have := ledger_ok h (List.getElem?_eq_some_iff.1 hy).1
  simp only [okAt, hy, Bool.and_eq_true, Nat.add_sub_cancel, monthAt_of hx] at this
  simpa using this.2
theorem ledger_mono {xs : List Entry} (h : ledgerB xs = true) {i : Nat} {x : Entry} (hx : xs[i]? = some x) : ∀ (d : Nat) {y : Entry}, xs[i + d]? = some y → x.month ≤ y.month
  | 0, y, hy => by rw [Nat.add_zero, hx] at hy; injection hy with e; subst e; omega
  | d + 1, y, hy => by
    obtain ⟨z, hz⟩ := get_of_lt (xs := xs) (k := i + d) (by have := (List.getElem?_eq_some_iff.1 hy).1; omega)
    have h1 := ledger_mono h hx d hz
    have h2 := ledger_step h hz (y := y) (by rw [← hy]; rfl)
    omega
theorem entry_facts {x : Entry} (h : entryB x = true) : (0 ≤ x.month ∧ x.month ≤ 35999) ∧ (0 ≤ x.debit ∧ x.debit ≤ 9) ∧ (0 ≤ x.credit ∧ x.credit ≤ 9) ∧ x.debit ≠ x.credit ∧ (1 ≤ x.amount ∧ x.amount ≤ 1000000000) := by
  simp only [entryB, Bool.and_eq_true, inR_true, bne_iff_ne] at h
  exact ⟨h.1, h.2.1, h.2.2.1, h.2.2.2.1, h.2.2.2.2⟩

def dAmt (a f t : Int) (e : Entry) : Int := if inR e.month f t = true ∧ e.debit = a then e.amount else 0
def cAmt (a f t : Int) (e : Entry) : Int := if inR e.month f t = true ∧ e.credit = a then e.amount else 0
def dSum (xs : List Entry) (a f t : Int) : Int := (xs.map (dAmt a f t)).sum
def cSum (xs : List Entry) (a f t : Int) : Int := (xs.map (cAmt a f t)).sum
theorem sum_snoc {α : Type} (g : α → Int) {xs : List α} {k : Nat} {x : α} (hx : xs[k]? = some x) : ((xs.take (k + 1)).map g).sum = ((xs.take k).map g).sum + g x := by
  rw [take_succ_snoc hx]; simp
theorem sum_bound {α : Type} (g : α → Int) (M : Int) : ∀ (l : List α), (∀ x ∈ l, 0 ≤ g x ∧ g x ≤ M) → 0 ≤ (l.map g).sum ∧ (l.map g).sum ≤ l.length * M
  | [], _ => by simp
  | x :: r, h => by
    have h1 := h x (by simp)
    have h2 := sum_bound g M r fun y hy => h y (by simp [hy])
    simp only [List.map_cons, List.sum_cons, List.length_cons]
    have : ((r.length + 1 : Nat) : Int) * M = r.length * M + M := by rw [Int.natCast_add, Int.add_mul]; simp
    omega
theorem dSum_snoc {xs : List Entry} {k : Nat} {x : Entry} (a f t : Int) (hx : xs[k]? = some x) : dSum (xs.take (k + 1)) a f t = dSum (xs.take k) a f t + dAmt a f t x := sum_snoc _ hx
theorem cSum_snoc {xs : List Entry} {k : Nat} {x : Entry} (a f t : Int) (hx : xs[k]? = some x) : cSum (xs.take (k + 1)) a f t = cSum (xs.take k) a f t + cAmt a f t x := sum_snoc _ hx
theorem dSum_bound {xs : List Entry} (a f t : Int) (hv : ∀ x ∈ xs, entryB x = true) (hn : xs.length ≤ 150) : 0 ≤ dSum xs a f t ∧ dSum xs a f t ≤ 150000000000 := by
  have h := sum_bound (dAmt a f t) 1000000000 xs fun x hx => by
    have := (entry_facts (hv x hx)).2.2.2.2
    unfold dAmt; split <;> omega
  unfold dSum; omega
theorem cSum_bound {xs : List Entry} (a f t : Int) (hv : ∀ x ∈ xs, entryB x = true) (hn : xs.length ≤ 150) : 0 ≤ cSum xs a f t ∧ cSum xs a f t ≤ 150000000000 := by
  have h := sum_bound (cAmt a f t) 1000000000 xs fun x hx => by
    have := (entry_facts (hv x hx)).2.2.2.2
    unfold cAmt; split <;> omega
  unfold cSum; omega
theorem take_valid {xs : List Entry} (hv : ∀ x ∈ xs, entryB x = true) (k : Nat) : ∀ x ∈ xs.take k, entryB x = true := fun x hx => hv x (List.mem_of_mem_take hx)
/-- the entries from place k on are all later: they add nothing -/
theorem sum_late {xs : List Entry} (g : Entry → Int) {k : Nat} (h : ∀ (i : Nat) (x : Entry), k ≤ i → xs[i]? = some x → g x = 0) : (xs.map g).sum = ((xs.take k).map g).sum := by
  conv => lhs; rw [← List.take_append_drop k xs]
  rw [List.map_append, List.sum_append]
  have : ∀ l : List Entry, (∀ x ∈ l, g x = 0) → (l.map g).sum = 0 := by
    intro l; induction l with
    | nil => simp
    | cons x r ih => intro hl; simp [hl x (by simp), ih fun y hy => hl y (by simp [hy])]
  have h0 := this (xs.drop k) (by
    intro x hx
    obtain ⟨i, hi⟩ := List.mem_iff_getElem?.1 hx
    rw [List.getElem?_drop] at hi
    exact h (k + i) x (by omega) hi)
  omega

def balP (xs : List Entry) (a u : Int) : Int := dSum xs a 0 u - cSum xs a 0 u
theorem bal_late {xs : List Entry} (h : ledgerB xs = true) {k : Nat} {x : Entry} (hx : xs[k]? = some x) {a u : Int} (hu : u < x.month) : balP xs a u = balP (xs.take k) a u := by
  have late : ∀ (i : Nat) (y : Entry), k ≤ i → xs[i]? = some y → u < y.month := fun i y hi hy => by
    have := ledger_mono h hx (i - k) (y := y) (by rw [show k + (i - k) = i by omega]; exact hy)
    omega
  unfold balP dSum cSum
  rw [sum_late (dAmt a 0 u) fun i y hi hy => by
      have := late i y hi hy
      unfold dAmt; rw [if_neg (by rw [inR_true]; omega)], sum_late (cAmt a 0 u) fun i y hi hy => by
      have := late i y hi hy
      unfold cAmt; rw [if_neg (by rw [inR_true]; omega)]]
/-- AccountBalance, TurnoverOf, TrialBalance: result and code -/
def accountP (xs : List Entry) (a u : Int) : Int × Int :=
  if ledgerB xs = true then (if inR a 0 9 = true ∧ inR u 0 35999 = true then (balP xs a u, 0) else (0, 2)) else (0, 1)
def turnoverP (xs : List Entry) (a f t : Int) : Int × Int × Int :=
  if ledgerB xs = true then (if inR a 0 9 = true ∧ (inR f 0 35999 = true ∧ inR t 0 35999 = true) then (dSum xs a f (t - 1), cSum xs a f (t - 1), 0) else (0, 0, 2)) else (0, 0, 1)
def trialP (xs : List Entry) : List Int × Int :=
  if ledgerB xs = true then ((List.range 10).map (fun a : Nat => balP xs (a : Int) 36000), 0) else ([], 1)
end Go.Proofs.YtkdfdbcpbgganaaGreatDoor
end

/- A law over the table of the accounts' names: what the row's list gives, and the row's step once for all. No condition. -/
section
namespace Go.Proofs.YtkdfdbcpbgganaaGreatDoor
open Go.RowKit Go.Deep Go.BigFrame Go.ChangeShapes Go.WideShapes Go.ChangeAt

def nameL : List ByteArray := [⟨#[99, 97, 115, 104]⟩, ⟨#[98, 111, 110, 100, 115]⟩, ⟨#[108, 111, 97, 110, 115]⟩, ⟨#[112, 114, 101, 109, 105, 117, 109, 115]⟩, ⟨#[99, 108, 97, 105, 109, 115]⟩, ⟨#[101, 120, 112, 101, 110, 115, 101, 115]⟩, ⟨#[105, 110, 116, 101, 114, 101, 115, 116]⟩, ⟨#[114, 101, 115, 101, 114, 118, 101]⟩, ⟨#[98, 111, 110, 117, 115]⟩, ⟨#[99, 97, 112, 105, 116, 97, 108]⟩]
def nameB (k : Nat) : ByteArray := nameL.getD k ⟨#[]⟩
/-- the table of the names lies where the program keeps it -/
def Names (w : World) : Prop := ∀ k : Nat, k < 10 → w.cell? ⟨0, k, none⟩ = some (.string (nameB k))
theorem Names.below {w w' : World} {B : Nat} (h : Names w) (hb : Below B w w') (hB : 0 < B) : Names w' := fun k hk => (hb.cell (p := ⟨0, k, none⟩) hB).trans (h k hk)
theorem Names.lt {w : World} (h : Names w) : 0 < w.heap.size := block_lt_of_cell (h 0 (by omega))
theorem Names.past {w w' : World} (h : Names w) (hb : Below w.heap.size w w') : Names w' := h.below hb h.lt

theorem cells_of_strs {H : Type} {enc : TypeId × Value → H} {P : Program} {w : World} {base : Nat} {sp : Nat → Bool} {held : Bool} {fuel : Nat} {t e : TypeId} {n : Nat} {cs : List Value} {ss : List ByteArray} {p : List MemPlace}
    (ht : P.underlying t = some (.array n e)) (he : P.underlying e = some .string) (hce : P.cellsOf e = 1) (hct : P.cellsOf t = n)
    (h : DataW.trod enc P w base sp held fuel t cs = some (.agg (ss.map fun s => .lit (.string s.data.toList)), p)) : cs = ss.map fun s => Value.string s := by
  cases fuel with
  | zero => simp [DataW.trod] at h
  | succ fuel =>
    simp only [DataW.trod, ht, hce, hct, Nat.mul_one] at h
    split at h
    · rename_i hl
      obtain ⟨xs, hm, hx⟩ := Option.map_eq_some_iff.1 h
      have hxs : xs.map (·.1) = ss.map fun s => (DataW.lit (.string s.data.toList) : DataW H) := by
        have := congrArg Prod.fst hx
        simpa using this
      have hxl : xs.length = n := by simpa using Lib.mapM_length hm
      have hzl : ss.length = n := by
        have := congrArg List.length hxs
        simp at this
        omega
      apply List.ext_getElem?
      intro i
      by_cases hi : i < n
      · obtain ⟨b, hb, hf⟩ := Lib.mapM_at hm i i (by simp [hi])
        obtain ⟨s, hc, rfl, _⟩ := DataW.trod_string he hf
        have h1 : cs[i]? = some (.string s) := by
          have := congrArg (·[0]?) hc
          simpa [List.getElem?_take, List.getElem?_drop] using this
        have h2 : (xs.map (·.1))[i]? = some (DataW.lit (.string s.data.toList) : DataW H) := by simp [hb]
        rw [hxs] at h2
        simp only [List.getElem?_map, Option.map_eq_some_iff, DataW.lit.injEq, Lit.string.injEq] at h2
        obtain ⟨s', hs', e'⟩ := h2
        have : s' = s := by cases s; cases s'; simp_all
        subst this
        simp [h1, hs']
      · rw [List.getElem?_eq_none (by omega), List.getElem?_eq_none (by simp; omega)]
    · cases h

section
variable {P : Program} {H : Type} {enc : TypeId × Value → H}
theorem post_true_vars {f : Func} {s : ChangeSpec} {tb : TypeId} {W W' : World} {args : Array Value} {ds gs : List (DataW H)} {before : List MemPlace} (hrow : varsRowed P s.vars = true)
    (hW : DataW.Whole enc P f.params.toList s.vars false W args.toList ds gs before) (hres : f.resultTypes = #[tb]) (htb : P.underlying tb = some .bool)
    (hs : s.fn H (ds ++ gs) = { results := [.lit (.bool true)], args := ds, vars := gs }) (hl : laidOutB P = true) (hp : ∀ t ∈ f.params.toList, P.readableRec t = true ∧ t < P.types.size) (hb : Below W.heap.size W W') :
    s.post enc P f false true false false W args (.bool true) W' := by
  have hlt := hW.lt
  obtain ⟨p, q, hA, hV, rfl, hz, hn⟩ := id hW
  refine ⟨ds, gs, p ++ q, [], p, q, hW, ?_, ?_, ?_, hb.frame _, fun h => by cases h⟩
  · simp only [hs, hres]
    exact trodAll_cons_mk (shut_bool htb _) trodAll_mk0
  · simp only [hs]
    exact trodAll_below hl hb hp hA (fun x hx => hlt x (by simp [hx]))
  · simp only [hs]
    exact Below.trodVars hl hb hrow hV
end

set_option maxRecDepth 100000 in
theorem law_liftedD {k : FuncId} {fn : Func} {s : ChangeSpec} {conds : List PathCond} {laid : List (String × DataW Unit)} (os : Os) (started : os.Started) (H : Type) (enc : TypeId × Value → H) (F : Stop.Interp) (tb : TypeId)
    (noInit : Tryz.prog.inits.idxOf? k = none) (hfn : Tryz.prog.funcs[k]? = some fn)
    (witness : ∃ (w : World) (tape : Tape) (i : Input), w.os = os ∧ (w.forCall tape i).Shaped Tryz.prog ∧ i.vars = [] ∧ Input.okWide Tryz.prog (w.forCall tape i) .any w.heap.size k i ∧
      (OpenSpec.ofChange s).preRow enc Tryz.prog fn conds false laid (w.forCall tape i).memory i.args ∧ (Assume.holds {} Tryz.prog (lone (Frame.enter Tryz.prog k i.args .normal) [] (w.forCall tape i))))
    (hrow : varsRowed Tryz.prog s.vars = true) (hres : fn.resultTypes = #[tb]) (htb : Tryz.prog.underlying tb = some .bool) (hp : ∀ t ∈ fn.params.toList, Tryz.prog.readableRec t = true ∧ t < Tryz.prog.types.size)
    (hs : ∀ ds gs : List (DataW H), ds.length = fn.params.size → gs.length = s.vars.length → s.fn H (ds ++ gs) = { results := [.lit (.bool true)], args := ds, vars := gs })
    (walk : ∀ (W : World) (base : Nat) (args : Array Value) (ds : List (DataW H)) (p : List MemPlace), (∀ (j : Nat) t v, fn.params[j]? = some t → args[j]? = some v → Value.okWide Tryz.prog W .any base t v) →
      DataW.TrodAll enc Tryz.prog W 0 (fun _ => true) true fn.params.toList args.toList ds p → laidMetH Tryz.prog laid W → Calls Tryz.prog k args W fun e W' => e = .returned (.bool true) ∧ Below W.heap.size W W') :
    ReturnsInHanded {} Tryz.checked os k .any ((OpenSpec.ofChange s).preRow enc Tryz.prog fn conds false laid) (((OpenSpec.ofChange s).at F).post enc Tryz.prog fn false true false false) := by
  refine returnsInHanded_of_row (C := Tryz.checked) (s := OpenSpec.ofChange s) own_knob started noInit hfn witness ?_
  intro W base args ds gs before hval hW _ _ _ hL _ _
  obtain ⟨p, q, hA, hV, _, _, _⟩ := id hW
  refine (walk W base args ds p hval hA hL).mono fun e W' ⟨he, hb⟩ => ?_
  subst he
  have hlen : ds.length = fn.params.size := by
    have : ∀ {ts : List TypeId} {vs : List Value} {ds : List (DataW H)} {ps : List MemPlace}, DataW.TrodAll enc Tryz.prog W 0 (fun _ => true) true ts vs ds ps → ds.length = ts.length := by
      intro ts
      induction ts with
      | nil => intro vs ds ps h; obtain ⟨_, rfl, _⟩ := trodAll_nil h; rfl
      | cons t ts ih => intro vs ds ps h; obtain ⟨_, _, _, _, _, _, _, rfl, _, _, h2⟩ := trodAll_cons h; simp [ih h2]
    simpa using this hA
  have hgl : gs.length = s.vars.length := by
    have : ∀ {ns : List String} {gs : List (DataW H)} {ps : List MemPlace}, DataW.TrodVars enc Tryz.prog W (fun _ => true) ns gs ps → gs.length = ns.length := by
      intro ns
      induction ns with
      | nil => intro gs ps h; cases gs with
        | nil => rfl
        | cons => exact h.elim
      | cons n ns ih => intro gs ps h; cases gs with
        | nil => exact h.elim
        | cons d ds => obtain ⟨_, _, _, _, _, _, _, _, _, _, h2, _⟩ := h; simp [ih h2]
    exact this hV
  exact ⟨_, rfl, post_true_vars hrow hW hres htb (hs ds gs hlen hgl) laid_out hp hb⟩
end Go.Proofs.YtkdfdbcpbgganaaGreatDoor
end

/- The names of the accounts: the program's and the reference's contracts over one plain function. -/
section
namespace Go.Proofs.YtkdfdbcpbgganaaGreatDoor
open Go.RowKit Go.BigFrame

def accountName (a : Int) : ByteArray := if inR a 0 9 then nameB a.toNat else ⟨#[]⟩

end Go.Proofs.YtkdfdbcpbgganaaGreatDoor
end

/- The text of a journal: the check number, a line, the whole: plain functions. -/
section
namespace Go.Proofs.YtkdfdbcpbgganaaGreatDoor
open Go.RowKit Go.BigFrame

def chkP (c : Int) (e : Entry) : Int := (c * 31 + e.month + 7 * e.debit + 13 * e.credit + e.amount) % 99991
theorem chk_bound (c : Int) (e : Entry) : 0 ≤ chkP c e ∧ chkP c e < 99991 := by unfold chkP; omega
def nameT (a : Int) : List UInt8 := (accountName a).data.toList
theorem S_name (a : Int) : S (nameT a) = accountName a := S_of _
theorem nameB_size : ∀ k : Nat, k < 10 → (nameB k).size ≤ 20 := by decide +kernel
theorem name_size (a : Int) : (accountName a).size ≤ 20 := by
  unfold accountName
  split
  · rename_i h
    obtain ⟨h1, h2⟩ := inR_true.1 h
    exact nameB_size _ (by omega)
  · show 0 ≤ 20; omega
theorem nameT_len (a : Int) : (nameT a).length ≤ 20 := by
  have h := name_size a
  rw [← S_name, S_size] at h
  exact h
def lineL (e : Entry) (c : Int) : List UInt8 := monthL e.month ++ [32] ++ nameT e.debit ++ [32] ++ nameT e.credit ++ [32] ++ moneyL e.amount ++ [32] ++ decL c
structure EntryOk (e : Entry) : Prop where
  m : 0 ≤ e.month ∧ e.month ≤ 35999
  d : 0 ≤ e.debit ∧ e.debit ≤ 9
  k : 0 ≤ e.credit ∧ e.credit ≤ 9
  a : 1 ≤ e.amount ∧ e.amount ≤ 1000000000
theorem entry_ok {e : Entry} (h : entryB e = true) : EntryOk e := by
  simp only [entryB, Bool.and_eq_true, inR_true] at h
  exact ⟨h.1, h.2.1, h.2.2.1, h.2.2.2.2⟩
theorem line_len {e : Entry} (h : EntryOk e) {c : Int} (hc : 0 ≤ c ∧ c < 99991) : (lineL e c).length ≤ 99 := by
  have h1 := monthL_len e.month h.m
  have h2 := nameT_len e.debit
  have h3 := nameT_len e.credit
  have h4 := moneyL_len (n := e.amount) (by have := h.a; omega)
  have h5 := decS_len (n := c) (by omega)
  rw [S_size] at h5
  simp only [lineL, List.length_append, List.length_cons, List.length_nil]
  omega
def jourS (xs : List Entry) : Int × List UInt8 := xs.foldl (fun s e => (chkP s.1 e, s.2 ++ (lineL e (chkP s.1 e) ++ [10]))) (0, [])
theorem jourS_snoc (xs : List Entry) (e : Entry) : jourS (xs ++ [e]) = (chkP (jourS xs).1 e, (jourS xs).2 ++ (lineL e (chkP (jourS xs).1 e) ++ [10])) := by simp [jourS]
theorem jourFold_bound : ∀ (xs : List Entry) (s : Int × List UInt8), (∀ e ∈ xs, EntryOk e) → (0 ≤ s.1 ∧ s.1 < 99991) →
    (0 ≤ (xs.foldl (fun s e => (chkP s.1 e, s.2 ++ (lineL e (chkP s.1 e) ++ [10]))) s).1 ∧ (xs.foldl (fun s e => (chkP s.1 e, s.2 ++ (lineL e (chkP s.1 e) ++ [10]))) s).1 < 99991) ∧
      (xs.foldl (fun s e => (chkP s.1 e, s.2 ++ (lineL e (chkP s.1 e) ++ [10]))) s).2.length ≤ s.2.length + 100 * xs.length
  | [], s, _, h0 => by simp; omega
  | e :: rest, s, h, h0 => by
    have hb := chk_bound s.1 e
    have hl := line_len (h e (by simp)) hb
    obtain ⟨i1, i2⟩ := jourFold_bound rest (chkP s.1 e, s.2 ++ (lineL e (chkP s.1 e) ++ [10])) (fun x hx => h x (by simp [hx])) hb
    simp only [List.foldl_cons, List.length_cons]
    refine ⟨i1, ?_⟩
    simp only [List.length_append, List.length_cons, List.length_nil] at i2
    omega
theorem jourS_bound {xs : List Entry} (h : ∀ e ∈ xs, EntryOk e) : (0 ≤ (jourS xs).1 ∧ (jourS xs).1 < 99991) ∧ (jourS xs).2.length ≤ 100 * xs.length := by
  have := jourFold_bound xs (0, []) h (by simp)
  simpa [jourS] using this
theorem jourS_take {xs : List Entry} {k : Nat} {e : Entry} (h : xs[k]? = some e) : jourS (xs.take (k + 1)) = (chkP (jourS (xs.take k)).1 e, (jourS (xs.take k)).2 ++ (lineL e (chkP (jourS (xs.take k)).1 e) ++ [10])) := by
  rw [List.take_add_one, h]
  exact jourS_snoc _ e
def jourP (xs : List Entry) : List UInt8 × Int := if ledgerB xs = true then ((jourS xs).2, 0) else ([], 1)
end Go.Proofs.YtkdfdbcpbgganaaGreatDoor
end

/- Texts are cut and read: plain laws of Split, Replace, CutPrefix at one byte; the words of a line. -/
section
namespace Go.Proofs.YtkdfdbcpbgganaaGreatDoor
open Go.RowKit Go.BigFrame

/-- a text cut at each byte c -/
def cutL (c : UInt8) : List UInt8 → List (List UInt8)
  | [] => [[]]
  | b :: l => if b = c then [] :: cutL c l else match cutL c l with
    | [] => [[b]]
    | p :: r => (b :: p) :: r
theorem cutL_ne (c : UInt8) (l : List UInt8) : cutL c l ≠ [] := by
  cases l with
  | nil => simp [cutL]
  | cons b l =>
    unfold cutL
    split
    · simp
    · split <;> simp
theorem cutL_free {c : UInt8} : ∀ {a : List UInt8}, c ∉ a → cutL c a = [a]
  | [], _ => rfl
  | b :: l, h => by
    have h1 : ¬ b = c := fun e => h (by simp [e])
    have h2 := cutL_free (c := c) (a := l) (fun e => h (by simp [e]))
    unfold cutL
    rw [if_neg h1, h2]
theorem cutL_at {c : UInt8} : ∀ {a : List UInt8} (b : List UInt8), c ∉ a → cutL c (a ++ c :: b) = a :: cutL c b
  | [], b, _ => by
    show cutL c (c :: b) = _
    conv => lhs; unfold cutL
    rw [if_pos rfl]
  | x :: l, b, h => by
    have h1 : ¬ x = c := fun e => h (by simp [e])
    have h2 := cutL_at (c := c) (a := l) b (fun e => h (by simp [e]))
    show cutL c (x :: (l ++ c :: b)) = _
    conv => lhs; unfold cutL
    rw [if_neg h1, h2]
theorem cutL_len (c : UInt8) : ∀ l : List UInt8, (cutL c l).length = l.count c + 1
  | [] => rfl
  | b :: l => by
    have ih := cutL_len c l
    unfold cutL
    split
    · rename_i h
      subst h
      simp [ih]
    · rename_i h
      rw [List.count_cons_of_ne (by simpa using h)]
      split
      · rename_i e; exact absurd e (cutL_ne c l)
      · rename_i e; rw [e] at ih; simpa using ih
/-- every piece is no longer than the text -/
theorem cutL_le (c : UInt8) : ∀ (l : List UInt8), ∀ p ∈ cutL c l, p.length ≤ l.length
  | [], p, h => by simp [cutL] at h; simp [h]
  | b :: l, p, h => by
    have ih := cutL_le c l
    unfold cutL at h
    split at h
    · rcases List.mem_cons.1 h with h | h
      · simp [h]
      · have := ih p h; simp only [List.length_cons]; omega
    · split at h
      · rename_i e; exact absurd e (cutL_ne c l)
      · rename_i q r e
        rcases List.mem_cons.1 h with h | h
        · have := ih q (by rw [e]; simp); subst h; simp only [List.length_cons]; omega
        · have := ih p (by rw [e]; simp [h]); simp only [List.length_cons]; omega
theorem index_one (c : UInt8) : ∀ l : List UInt8, (c ∉ l ∧ Lib.index l [c] = -1) ∨ (∃ a b, l = a ++ c :: b ∧ c ∉ a ∧ Lib.index l [c] = (a.length : Nat))
  | [] => .inl ⟨by simp, rfl⟩
  | x :: l => by
    by_cases h : x = c
    · subst h
      exact .inr ⟨[], l, rfl, by simp, by rw [Lib.index]; simp [List.isPrefixOf]⟩
    · have hp : ([c] : List UInt8).isPrefixOf (x :: l) = false := by simp [List.isPrefixOf, Ne.symm h]
      have hix : Lib.index (x :: l) [c] = if Lib.index l [c] == -1 then -1 else Lib.index l [c] + 1 := by rw [Lib.index, hp]; simp
      rcases index_one c l with ⟨h1, h2⟩ | ⟨a, b, h1, h2, h3⟩
      · refine .inl ⟨by simp [h1, Ne.symm h], ?_⟩
        rw [hix, h2]; rfl
      · refine .inr ⟨x :: a, b, by rw [h1]; rfl, by simp [h2, Ne.symm h], ?_⟩
        rw [hix, h3, if_neg (by intro e; have := beq_iff_eq.1 e; omega)]
        simp
theorem splitK_cut (c : UInt8) : ∀ (k : Nat) (l : List UInt8), k = l.count c → Lib.splitK [c] 0 k l = cutL c l
  | 0, l, h => by
    have : c ∉ l := List.count_eq_zero.1 h.symm
    rw [cutL_free this]; rfl
  | k + 1, l, h => by
    rcases index_one c l with ⟨h1, _⟩ | ⟨a, b, rfl, h2, h3⟩
    · rw [List.count_eq_zero.2 h1] at h; omega
    · have h4 : k = b.count c := by
        simp only [List.count_append, List.count_cons_self, List.count_eq_zero.2 h2] at h; omega
      rw [Lib.splitK, h3, if_neg (by intro e; have := beq_iff_eq.1 e; omega), cutL_at b h2]
      have e1 : ((a.length : Nat) : Int).toNat = a.length := by omega
      rw [e1]
      have e2 : (a ++ c :: b).drop (a.length + [c].length) = b := by simp
      have e3 : (a ++ c :: b).take (a.length + 0) = a := by simp
      rw [e2, e3, splitK_cut c k b h4]
theorem splitB_cut (c : UInt8) (s : ByteArray) : (Lib.splitB ⟨#[c]⟩ 0 (Lib.countB s ⟨#[c]⟩) s) = (cutL c s.data.toList).map S := by
  have h := Lib.splitB_data ⟨#[c]⟩ 0 (Lib.countB s ⟨#[c]⟩) s
  have e : (⟨#[c]⟩ : ByteArray).data.toList = [c] := rfl
  have hc : Lib.countB s ⟨#[c]⟩ = s.data.toList.count c := Lib.count_one c _
  rw [e, splitK_cut c _ _ hc] at h
  rw [← h, List.map_map]
  conv => lhs; rw [← List.map_id (Lib.splitB _ 0 _ s)]
  refine List.map_congr_left fun x _ => ?_
  exact (S_of x).symm
theorem countB_one (c : UInt8) (s : ByteArray) : Lib.countB s ⟨#[c]⟩ + 1 = (cutL c s.data.toList).length := by
  rw [cutL_len]
  exact congrArg (· + 1) (Lib.count_one c _)
theorem replace_once {c : UInt8} {a b : List UInt8} (ha : c ∉ a) : Lib.replace (a ++ c :: b) [c] [] 1 = a ++ b := by
  rcases index_one c (a ++ c :: b) with ⟨h1, _⟩ | ⟨a', b', h1, h2, h3⟩
  · exact absurd (by simp) h1
  · have hh := cutL_at b ha
    rw [h1, cutL_at b' h2] at hh
    have ea : a' = a := by injection hh
    subst ea
    have hn : Lib.replaceNum (a' ++ c :: b) [c] 1 = 1 := by
      unfold Lib.replaceNum
      rw [Lib.count_one]
      have : 1 ≤ (a' ++ c :: b).count c := by simp; omega
      rw [if_neg (by omega)]; rfl
    unfold Lib.replace
    rw [if_neg (by simp), hn, Lib.replaceK, h3, if_neg (by intro e; have := beq_iff_eq.1 e; omega)]
    have e1 : ((a'.length : Nat) : Int).toNat = a'.length := by omega
    rw [e1]
    have e2 : (a' ++ c :: b).drop (a'.length + [c].length) = b := by simp
    have e3 : (a' ++ c :: b).take a'.length = a' := by simp
    rw [e2, e3]
    simp [Lib.replaceK]
theorem digits_free {l : List UInt8} (h : DigitsL l) {c : UInt8} (hc : c.toNat < 48) : c ∉ l := fun hm => by have := h c hm; omega
theorem digits_append {a b : List UInt8} (ha : DigitsL a) (hb : DigitsL b) : DigitsL (a ++ b) := fun c hc => by
  rcases List.mem_append.1 hc with h | h
  · exact ha c h
  · exact hb c h
/-- money of at least 0: the point goes, the digits are the number -/
theorem money_parse {m : Int} (h : 0 ≤ m ∧ m ≤ 1000000000000) : Lib.parseIntB 64 (Lib.replace (moneyP m) [46] [] 1) = .ok m ∧ (moneyP m).length ≤ 16 ∧ (∃ c r, moneyP m = c :: r ∧ 48 ≤ c.toNat ∧ c.toNat ≤ 57) := by
  obtain ⟨k, rfl⟩ := Int.eq_ofNat_of_zero_le h.1
  obtain ⟨d1, v1⟩ := dec_digits (k / 100)
  have hp := dec_pos (k / 100)
  have hl := dec_len (n := k / 100) (k := 11) (by omega) (by omega)
  have d2 : DigitsL [dg (k / 10 % 10), dg (k % 10)] := fun c hc => by
    simp at hc
    rcases hc with rfl | rfl <;> exact dg_digit (by omega)
  have hv : valL 0 (Lib.decDigits (k / 100) ++ [dg (k / 10 % 10), dg (k % 10)]) = k := by
    rw [valL_append, v1]
    show (k / 100 * 10 + ((dg (k / 10 % 10)).toNat - 48)) * 10 + ((dg (k % 10)).toNat - 48) = k
    rw [dg_toNat (by omega), dg_toNat (by omega)]; omega
  rw [money_eq]
  refine ⟨?_, ?_, ?_⟩
  · rw [show Lib.decDigits (k / 100) ++ [46, dg (k / 10 % 10), dg (k % 10)] = Lib.decDigits (k / 100) ++ 46 :: [dg (k / 10 % 10), dg (k % 10)] from rfl, replace_once (digits_free d1 (by decide)), parseInt_digits (by simp) (digits_append d1 d2) (by rw [hv]; omega), hv]
  · simp only [List.length_append, List.length_cons, List.length_nil]; omega
  · match hd : Lib.decDigits (k / 100) with
    | [] => rw [hd] at hp; simp at hp
    | c :: r => exact ⟨c, r ++ _, rfl, d1 c (by rw [hd]; simp)⟩
theorem money_cut {m : Int} (h : -1000000000000 ≤ m ∧ m ≤ 1000000000000) :
    Lib.parseIntB 64 (Lib.replace (Lib.trimPrefix (moneyL m) [45]) [46] [] 1) = .ok (if m < 0 then -m else m) ∧ (Lib.trimPrefix (moneyL m) [45]).length ≤ 16 ∧ Lib.hasPrefix (moneyL m) [45] = decide (m < 0) ∧ moneyL m ≠ [] := by
  by_cases hm : m < 0
  · obtain ⟨h1, h2, _⟩ := money_parse (m := -m) (by omega)
    have e : moneyL m = 45 :: moneyP (-m) := by rw [moneyL, if_pos hm]
    have ht : Lib.trimPrefix (moneyL m) [45] = moneyP (-m) := by rw [e]; simp [Lib.trimPrefix, Lib.hasPrefix, List.isPrefixOf]
    rw [ht, if_pos hm, e]
    exact ⟨h1, h2, by simp [Lib.hasPrefix, List.isPrefixOf, hm], by simp⟩
  · obtain ⟨h1, h2, c, r, h3, h4, h5⟩ := money_parse (m := m) (by omega)
    have e : moneyL m = moneyP m := by rw [moneyL, if_neg hm]
    have hc : ¬ (45 : UInt8) = c := fun hh => by subst hh; revert h4; decide
    have hh : Lib.hasPrefix (moneyL m) [45] = false := by rw [e, h3]; simp [Lib.hasPrefix, List.isPrefixOf, hc]
    have ht : Lib.trimPrefix (moneyL m) [45] = moneyP m := by unfold Lib.trimPrefix; rw [hh, e]; simp
    rw [ht, if_neg hm, hh, e]
    exact ⟨h1, h2, by simp [hm], by rw [h3]; simp⟩
/-- the words of a line -/
theorem month_free {m : Int} (h : 0 ≤ m ∧ m ≤ 35999) : (32 : UInt8) ∉ monthL m ∧ (10 : UInt8) ∉ monthL m := by
  obtain ⟨k, rfl⟩ := Int.eq_ofNat_of_zero_le h.1
  have d4 := (pad_digits 4 (k / 12)).1
  have d2 := (pad_digits 2 (k % 12 + 1)).1
  unfold monthL decL
  rw [show ((k : Int) / 12).toNat = k / 12 by omega, show ((k : Int) % 12 + 1).toNat = k % 12 + 1 by omega]
  refine ⟨fun hm => ?_, fun hm => ?_⟩
  · rcases List.mem_append.1 hm with hm | hm
    · rcases List.mem_append.1 hm with hm | hm
      · exact digits_free d4 (by decide) hm
      · simp at hm
    · exact digits_free d2 (by decide) hm
  · rcases List.mem_append.1 hm with hm | hm
    · rcases List.mem_append.1 hm with hm | hm
      · exact digits_free d4 (by decide) hm
      · simp at hm
    · exact digits_free d2 (by decide) hm
theorem moneyP_free {m : Int} (h : 0 ≤ m) {c : UInt8} (hc : c.toNat < 48) (h46 : c ≠ 46) : c ∉ moneyP m := by
  obtain ⟨k, rfl⟩ := Int.eq_ofNat_of_zero_le h
  have d1 := (dec_digits (k / 100)).1
  rw [money_eq]
  intro hm
  rcases List.mem_append.1 hm with hm | hm
  · exact digits_free d1 hc hm
  · simp at hm
    rcases hm with rfl | rfl | rfl
    · exact h46 rfl
    · have := (dg_digit (n := k / 10 % 10) (by omega)).1; omega
    · have := (dg_digit (n := k % 10) (by omega)).1; omega
theorem money_free {m : Int} {c : UInt8} (hc : c.toNat < 48) (h46 : c ≠ 46) (h45 : c ≠ 45) : c ∉ moneyL m := by
  unfold moneyL
  split
  · intro hm
    rcases List.mem_cons.1 hm with hm | hm
    · exact h45 hm
    · exact moneyP_free (by omega) hc h46 hm
  · exact moneyP_free (by omega) hc h46
theorem name_free : ∀ k : Nat, k < 10 → (32 : UInt8) ∉ (nameB k).data.toList ∧ (10 : UInt8) ∉ (nameB k).data.toList := by decide +kernel
theorem nameT_free (a : Int) : (32 : UInt8) ∉ nameT a ∧ (10 : UInt8) ∉ nameT a := by
  unfold nameT accountName
  split
  · rename_i h
    obtain ⟨h1, h2⟩ := inR_true.1 h
    exact name_free _ (by omega)
  · exact ⟨by decide, by decide⟩
theorem line_words {e : Entry} (h : EntryOk e) (c : Int) : cutL 32 (lineL e c) = [monthL e.month, nameT e.debit, nameT e.credit, moneyL e.amount, decL c] := by
  have h5 : (32 : UInt8) ∉ decL c := digits_free (dec_digits _).1 (by decide)
  unfold lineL
  simp only [List.append_assoc, List.cons_append, List.nil_append]
  rw [cutL_at _ (month_free h.m).1, cutL_at _ (nameT_free _).1, cutL_at _ (nameT_free _).1, cutL_at _ (money_free (by decide) (by decide) (by decide)), cutL_free h5]
theorem line_free {e : Entry} (h : EntryOk e) (c : Int) : (10 : UInt8) ∉ lineL e c := by
  have h5 : (10 : UInt8) ∉ decL c := digits_free (dec_digits _).1 (by decide)
  have h1 := (month_free h.m).2
  have h2 := (nameT_free e.debit).2
  have h3 := (nameT_free e.credit).2
  have h4 := money_free (m := e.amount) (c := 10) (by decide) (by decide) (by decide)
  simp only [lineL, List.mem_append, List.mem_singleton]
  rintro (((((((( h | h) | h) | h) | h) | h) | h) | h) | h)
  · exact h1 h
  · revert h; decide
  · exact h2 h
  · revert h; decide
  · exact h3 h
  · revert h; decide
  · exact h4 h
  · revert h; decide
  · exact h5 h
theorem name_inj : ∀ i : Nat, i < 10 → ∀ j : Nat, j < 10 → (nameB i).data.toList = (nameB j).data.toList → i = j := by decide +kernel
theorem isEmpty_ne {s : ByteArray} (h : ¬ s = ⟨#[]⟩) : s.toList.isEmpty = false := by
  rw [ByteArray.toList_eq]
  match hl : s.data.toList with
  | [] => exact absurd ((S_of s).symm.trans (by rw [hl]; rfl)) h
  | _ :: _ => rfl
theorem replaceK_len (c : UInt8) : ∀ (k : Nat) (l : List UInt8), (Lib.replaceK [c] [] k l).length ≤ l.length
  | 0, l => Nat.le_refl _
  | k + 1, l => by
    rcases index_one c l with ⟨_, h2⟩ | ⟨a, b, rfl, h2, h3⟩
    · rw [Lib.replaceK, h2, if_pos (by decide)]; exact Nat.le_refl _
    · have e1 : ((a.length : Nat) : Int).toNat = a.length := by omega
      have e2 : (a ++ c :: b).drop (a.length + [c].length) = b := by simp
      have e3 : (a ++ c :: b).take a.length = a := by simp
      have ih := replaceK_len c k b
      rw [Lib.replaceK, h3, if_neg (by intro e; have := beq_iff_eq.1 e; omega), e1, e2, e3]
      simp only [List.length_append, List.length_cons, List.length_nil]
      omega
theorem replace_len (c : UInt8) (l : List UInt8) (n : Int) : (Lib.replace l [c] [] n).length ≤ l.length := by
  unfold Lib.replace
  split
  · exact Nat.le_refl _
  · exact replaceK_len c _ l
end Go.Proofs.YtkdfdbcpbgganaaGreatDoor
end
