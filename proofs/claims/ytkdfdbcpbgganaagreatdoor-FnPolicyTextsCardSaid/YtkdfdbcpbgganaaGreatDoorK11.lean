/- Parts of a proof, one after another: TabP, TextI, Read1, Read2, TextS, Ledg, Jour2, Read4, TabR, Split, TabS, TabA. No condition. -/
import Derived.Test.YtkdfdbcpbgganaaGreatDoorK0
import Derived.Test.YtkdfdbcpbgganaaGreatDoorK1
import Derived.Test.YtkdfdbcpbgganaaGreatDoorK2
import Derived.Test.YtkdfdbcpbgganaaGreatDoorK5
import Derived.Test.YtkdfdbcpbgganaaGreatDoorK10
import Derived.Lib.Join
import Derived.Lib.LaidTab
import Derived.Lib.AppendIntMem
import Derived.Lib.AtoiErrMem
import Derived.Laws.IdiomStrings
import Derived.Deep.RegionLaw
import Derived.Deep.RegionHeld3
/- Numbers apart by blanks: their text, cut and joined. Plain. -/
section
namespace Go.Proofs.YtkdfdbcpbgganaaGreatDoor
open Go.RowKit Go.BigFrame

def numsL (ns : List Int) : List UInt8 := Lib.join (ns.map decL) [32]
theorem join_one (p sep : List UInt8) : Lib.join [p] sep = p := by simp [Lib.join, List.intercalate]
theorem join_cons (p q sep : List UInt8) (r : List (List UInt8)) : Lib.join (p :: q :: r) sep = p ++ sep ++ Lib.join (q :: r) sep := by
  simp [Lib.join, List.intercalate, List.intersperse]
theorem join_snoc (sep : List UInt8) (p : List UInt8) : ∀ ps : List (List UInt8), ps ≠ [] → Lib.join (ps ++ [p]) sep = Lib.join ps sep ++ sep ++ p
  | [], h => absurd rfl h
  | [q], _ => by
    show Lib.join (q :: p :: []) sep = _
    rw [join_cons, join_one, join_one]
  | q :: r :: t, _ => by
    show Lib.join (q :: r :: (t ++ [p])) sep = _
    have ih := join_snoc sep p (r :: t) (by simp)
    rw [join_cons, join_cons]
    have e : (r :: t) ++ [p] = r :: (t ++ [p]) := rfl
    rw [e] at ih
    rw [ih]
    simp
theorem join_cut (c : UInt8) : ∀ l : List UInt8, Lib.join (cutL c l) [c] = l
  | [] => by simp [cutL, Lib.join, List.intercalate]
  | b :: l => by
    have ih := join_cut c l
    match hc : cutL c l with
    | [] => exact absurd hc (cutL_ne c l)
    | p :: r =>
      rw [hc] at ih
      unfold cutL
      split
      · rename_i h
        subst h
        rw [hc, join_cons, ih]; rfl
      · rw [hc]
        show Lib.join ((b :: p) :: r) [c] = b :: l
        match r with
        | [] => rw [join_one] at ih ⊢; rw [ih]
        | q :: t => rw [join_cons] at ih ⊢; rw [← ih]; rfl
theorem decL_free (n : Int) : (32 : UInt8) ∉ decL n := digits_free (dec_digits _).1 (by decide)
theorem cut_nums : ∀ ns : List Int, ns ≠ [] → cutL 32 (numsL ns) = ns.map decL
  | [], h => absurd rfl h
  | [n], _ => by
    show cutL 32 (Lib.join [decL n] [32]) = [decL n]
    rw [join_one]; exact cutL_free (decL_free n)
  | n :: m :: r, _ => by
    have ih := cut_nums (m :: r) (by simp)
    show cutL 32 (Lib.join (decL n :: decL m :: r.map decL) [32]) = decL n :: (m :: r).map decL
    rw [join_cons, List.append_assoc]
    show cutL 32 (decL n ++ 32 :: Lib.join (decL m :: r.map decL) [32]) = _
    rw [cutL_at _ (decL_free n), ← ih]; rfl
theorem decL_inj {a b : Int} (ha : 0 ≤ a) (hb : 0 ≤ b) (h : decL a = decL b) : a = b := by
  have h1 := (dec_digits a.toNat).2
  have h2 := (dec_digits b.toNat).2
  have h3 : Lib.decDigits a.toNat = Lib.decDigits b.toNat := h
  rw [h3, h2] at h1
  omega
/-- words that are numbers' texts -/
theorem words_nums {l : List UInt8} {ns : List Int} (h : cutL 32 l = ns.map decL) : l = numsL ns := by
  rw [← join_cut 32 l, h]; rfl
theorem decL_len {n : Int} (hn : n ≤ 1000000000000000) : (decL n).length ≤ 17 := by
  have := decS_len hn
  rwa [S_size] at this
theorem nums_len : ∀ ns : List Int, (∀ n ∈ ns, n ≤ 1000000000000000) → (numsL ns).length ≤ 18 * ns.length
  | [], _ => by simp [numsL, Lib.join, List.intercalate]
  | [n], h => by
    show (Lib.join [decL n] [32]).length ≤ 18 * 1
    rw [join_one]
    have := decL_len (h n (by simp)); omega
  | n :: m :: r, h => by
    have ih := nums_len (m :: r) (fun x hx => h x (by simp [hx]))
    have h1 := decL_len (h n (by simp))
    show (Lib.join (decL n :: decL m :: r.map decL) [32]).length ≤ 18 * (r.length + 1 + 1)
    rw [join_cons]
    have ih2 : (Lib.join (decL m :: r.map decL) [32]).length ≤ 18 * (r.length + 1) := ih
    simp only [List.length_append, List.length_cons, List.length_nil]
    omega
theorem nums_snoc {ns : List Int} {n : Int} (h : ns ≠ []) : numsL (ns ++ [n]) = numsL ns ++ [32] ++ decL n := by
  unfold numsL
  rw [List.map_append]
  exact join_snoc _ _ _ (by simpa using h)
theorem nums_one (n : Int) : numsL [n] = decL n := join_one _ _
theorem nums_cons {n : Int} {ns : List Int} (h : ns ≠ []) : numsL (n :: ns) = decL n ++ [32] ++ numsL ns := by
  match ns, h with
  | m :: r, _ => exact join_cons _ _ _ _
end Go.Proofs.YtkdfdbcpbgganaaGreatDoor
end

/- Texts of numbers: the program's contracts (decimal, digits, MonthText, MoneyText). The table of the powers of ten lies where the program keeps it. -/
section
namespace Go.Proofs.YtkdfdbcpbgganaaGreatDoor
open Go.RowKit Go.BigFrame

/-- the table of the powers of ten -/
def Tab (w : World) : Prop := Lib.TabIs Tryz.prog w "internal/strconv.uint64pow10" .u64 Lib.pow10Tab
theorem Tab.past {w w' : World} (h : Tab w) (hb : Below w.heap.size w w') : Tab w' := by
  unfold Tab Lib.TabIs World.var? at *
  cases hg : Tryz.prog.globalNamed "internal/strconv.uint64pow10" with
  | none => rw [hg] at h; simp at h
  | some g =>
    rw [hg] at h
    simp only [Option.bind_some] at h ⊢
    have hlt : g < w.heap.size := by
      rcases Nat.lt_or_ge g w.heap.size with h1 | h1
      · exact h1
      · rw [Array.getElem?_eq_none h1] at h; simp at h
    rw [hb.block g hlt]
    exact h

theorem impl_decimal_any (n : Int) (hn : In64 n) (w : World) (hT : Tab w) :
    Calls Tryz.prog 41 #[.int .i64 n] w fun e w' => e = .returned (.string (S (Lib.itoa n))) ∧ Below w.heap.size w w' := by
  obtain ⟨h1, h2⟩ := hn
  go_enter Tryz.func41, Tryz.ntmps41
  go_wp2_with (go_at_call 78; refine (Tryz.strconv_FormatInt_10 n h1 h2 _ hT).mono ?_; rintro e w' ⟨rfl, k, os, rfl⟩)
  go_ret
  exact ⟨rfl, Lib.below_grow _ _ (Nat.le_refl _) _ _⟩

end Go.Proofs.YtkdfdbcpbgganaaGreatDoor
end

/- Texts are read: the tables and variables that reading leans on; ParseInt; ReadMonth of the program. -/
section
namespace Go.Proofs.YtkdfdbcpbgganaaGreatDoor
open Go.RowKit Go.BigFrame

/-- what reading leans on: the table of the powers of ten, the errors of numbers, the greatest length -/
structure Env (w : World) : Prop where
  tab : Tab w
  syn : ∃ ev, w.cell? ⟨0, 0, none⟩ = some ev ∧ (ev = .nilIface ∨ ∃ te pe, ev = .iface te pe)
  rng : ∃ ev, w.cell? ⟨1, 0, none⟩ = some ev ∧ (ev = .nilIface ∨ ∃ te pe, ev = .iface te pe)
  mx : ∃ m, w.cell? ⟨5, 0, none⟩ = some (.int .i64 m)
theorem Env.past {w w' : World} (h : Env w) (hb : Below w.heap.size w w') : Env w' := by
  obtain ⟨h1, ⟨e2, h2, k2⟩, ⟨e3, h3, k3⟩, ⟨m, h4⟩⟩ := h
  exact ⟨h1.past hb, ⟨e2, (hb.cell (block_lt_of_cell h2)).trans h2, k2⟩, ⟨e3, (hb.cell (block_lt_of_cell h3)).trans h3, k3⟩, ⟨m, (hb.cell (block_lt_of_cell h4)).trans h4⟩⟩

theorem parse_any (s : ByteArray) (hs : s.size ≤ 1000000) (w : World) (hE : Env w) :
    Calls Tryz.prog 61 #[.string s, .int .i64 10, .int .i64 64] w fun e w' => ∃ (v : Int) (ev : Value), e = .returned (.tuple #[.int .i64 v, ev]) ∧ In64 v ∧ (ev = .nilIface ∨ ∃ te N, ev = .iface te (.pointer (some ⟨N, 0, none⟩))) ∧
      (∀ z, Lib.parseIntB 64 s.data.toList = .ok z → v = z ∧ ev = .nilIface) ∧ Below w.heap.size w w' := by
  obtain ⟨_, ⟨e2, h2, k2⟩, ⟨e3, h3, k3⟩, _⟩ := hE
  cases hq : Lib.parseIntB 64 s.data.toList with
  | ok z =>
    refine (Tryz.strconv_ParseInt_10_at64_ok s (by omega) z hq w).mono ?_
    rintro e w' ⟨rfl, hw⟩
    refine ⟨z, .nilIface, rfl, parseInt_in hq, .inl rfl, fun z' h => by injection h with h; exact ⟨h, rfl⟩, ?_⟩
    rcases hw with rfl | ⟨t, rfl⟩
    · exact Below.refl _ _
    · exact Lib.bytesWorld_below w _ t
  | range =>
    refine (Tryz.strconv_ParseInt_10_at64_range s (by omega) hq e3 w h3 k3).mono ?_
    rintro e w' ⟨N, rfl, _, _, hb⟩
    exact ⟨_, _, rfl, intSat_in _, .inr ⟨_, N, rfl⟩, fun z h => (by cases h), hb⟩
  | _ =>
    refine (Any.strconv_ParseInt_10_at64_syntax Tryz.laysC174 s (by omega) hq e2 w h2 k2).mono ?_
    rintro e w' ⟨N, rfl, _, _, hb⟩
    exact ⟨0, _, rfl, by unfold In64; omega, .inr ⟨_, N, rfl⟩, fun z h => (by cases h), hb⟩

theorem month_parts {m : Int} (h : 0 ≤ m ∧ m ≤ 35999) : Lib.parseIntB 64 ((monthL m).take 4) = .ok (m / 12) ∧ Lib.parseIntB 64 ((monthL m).drop 5) = .ok (m % 12 + 1) := by
  obtain ⟨k, rfl⟩ := Int.eq_ofNat_of_zero_le h.1
  have e1 : ((k : Int) / 12).toNat = k / 12 := by omega
  have e2 : ((k : Int) % 12 + 1).toNat = k % 12 + 1 := by omega
  have l4 : (padL 4 (Lib.decDigits (k / 12))).length = 4 := by rw [pad_four (by omega)]; rfl
  have l2 : (padL 2 (Lib.decDigits (k % 12 + 1))).length = 2 := by rw [pad_two (by omega)]; rfl
  obtain ⟨d4, v4⟩ := pad_digits 4 (k / 12)
  obtain ⟨d2, v2⟩ := pad_digits 2 (k % 12 + 1)
  unfold monthL decL
  rw [e1, e2]
  constructor
  · rw [List.append_assoc, List.take_left' l4, parseInt_digits (by intro h0; rw [h0] at l4; cases l4) d4 (by rw [v4]; omega), v4]
    congr 1
  · rw [List.drop_left' (by simp [l4]), parseInt_digits (by intro h0; rw [h0] at l2; cases l2) d2 (by rw [v2]; omega), v2]
    congr 1
theorem extract_list (s : ByteArray) (a b : Nat) : (s.extract a b).data.toList = (s.data.toList.drop a).take (b - a) := by
  rw [ByteArray.data_extract, Array.toList_extract, List.extract_eq_take_drop]

end Go.Proofs.YtkdfdbcpbgganaaGreatDoor
end

/- Texts are read: ReadMoney, accountOf of the program. -/
section
namespace Go.Proofs.YtkdfdbcpbgganaaGreatDoor
open Go.RowKit Go.BigFrame

/-- a reader's answer: a number, true; or not -/
def Reads (text : Int → Prop) (w w' : World) (e : Ending) : Prop := ∃ (n : Int) (b : Bool), e = .returned (.tuple #[.int .i64 n, .bool b]) ∧ In64 n ∧ (∀ m, text m → n = m ∧ b = true) ∧ Below w.heap.size w w'
def MonthIs (s : ByteArray) (m : Int) : Prop := (0 ≤ m ∧ m ≤ 35999) ∧ s = S (monthL m)
def MoneyIs (s : ByteArray) (m : Int) : Prop := (-1000000000000 ≤ m ∧ m ≤ 1000000000000) ∧ s = S (moneyL m)

theorem nameT_at {k : Nat} (h : k < 10) : S (nameT (k : Int)) = nameB k := by
  rw [S_name, accountName, if_pos (inR_true.2 (by omega))]
  rfl
theorem nameS_inj {i j : Nat} (hi : i < 10) (hj : j < 10) (h : nameB i = nameB j) : i = j := name_inj i hi j hj (by rw [h])

/-- the number of the account with a name, or -1 -/
noncomputable def accP (s : ByteArray) : Int := open Classical in if h : ∃ k : Nat, k < 10 ∧ s = nameB k then ((Classical.choose h : Nat) : Int) else -1
theorem accP_at {s : ByteArray} {k : Nat} (hk : k < 10) (h : s = nameB k) : accP s = (k : Int) := by
  have he : ∃ k : Nat, k < 10 ∧ s = nameB k := ⟨k, hk, h⟩
  obtain ⟨h1, h2⟩ := Classical.choose_spec he
  unfold accP
  rw [dif_pos he]
  rw [nameS_inj h1 hk (h2.symm.trans h)]
theorem accP_no {s : ByteArray} (h : ∀ k : Nat, k < 10 → ¬ s = nameB k) : accP s = -1 := by
  unfold accP
  rw [dif_neg (fun ⟨k, h1, h2⟩ => h k h1 h2)]
theorem accP_in (s : ByteArray) : -1 ≤ accP s ∧ accP s ≤ 9 := by
  by_cases he : ∃ k : Nat, k < 10 ∧ s = nameB k
  · obtain ⟨k, h1, h2⟩ := he
    rw [accP_at h1 h2]; omega
  · rw [accP_no (fun k h1 h2 => he ⟨k, h1, h2⟩)]; omega
theorem accP_name {d : Int} (h : 0 ≤ d ∧ d ≤ 9) : accP (S (nameT d)) = d := by
  obtain ⟨k, rfl⟩ := Int.eq_ofNat_of_zero_le h.1
  exact accP_at (by omega) (nameT_at (by omega))

theorem run_index_row {ty et : TypeId} {n : Nat} {cs : Array Value} {v : Value} (i : Nat) (hu : Tryz.prog.underlying ty = some (.array n et)) (he : Tryz.prog.plainKey et = true) (hs : ∃ inf, Tryz.prog.info? et = some inf ∧ Tryz.prog.cellsOf et = 1) (hi : i < n) (hx : cs[i]? = some v) (w : World) :
    (Instr.index ty (.agg cs) (.int .i64 (i : Int))).run Tryz.prog w = .ok v w := by
  obtain ⟨inf, h1, h2⟩ := hs
  have h3 : (0 : Int) ≤ (i : Int) ∧ (i : Int) < (n : Int) := by omega
  have h4 := Go.run_part_plain (P := Tryz.prog) (w := w) he (off := i) hx
  simp only [Instr.index, asIntOf, Sem.run_bind, Sem.run_pure, Result.andThen_ok, run_underlying hu, h3, and_self, if_true, Go.run_sizeOf w h1, h2, Nat.mul_one, Int.toNat_natCast, h4]
theorem wpList_index_row {ops : Array Oper} {rest : List Oper} {o : Oper} {a : Act} {w : World} {Q : Exit → Act → World → Prop} (hgd : o.guard = none) (ty : TypeId) (x ix : Operand) (ho : o.op = .index ty x ix)
    (cs : Array Value) (hxa : a.eval x = .agg cs) (i : Nat) (hxi : a.eval ix = .int .i64 (i : Int)) {et : TypeId} {n : Nat} {v : Value} (hu : Tryz.prog.underlying ty = some (.array n et)) (he : Tryz.prog.plainKey et = true) (hs : ∃ inf, Tryz.prog.info? et = some inf ∧ Tryz.prog.cellsOf et = 1) (hi : i < n) (hx : cs[i]? = some v)
    (h : wpList Tryz.prog ops Q rest (a.put o.dst v) w) : wpList Tryz.prog ops Q (o :: rest) a w :=
  wpList_plain hgd fun _ hK => by
    unfold Oper.wp execOp
    simp only [ho, hxa, hxi, Sem.run_bind, Sem.run_pure, Result.andThen_ok, run_index_row i hu he hs hi hx]
    exact hK _ _ h
theorem strInfo : ∃ inf, Tryz.prog.info? 9 = some inf ∧ Tryz.prog.cellsOf 9 = 1 := by
  have h : (Tryz.prog.info? 9).isSome = true := by kernel_rfl
  obtain ⟨inf, hinf⟩ := Option.isSome_iff_exists.1 h
  exact ⟨inf, hinf, by kernel_rfl⟩
theorem strKey : Tryz.prog.plainKey 9 = true := by kernel_rfl
end Go.Proofs.YtkdfdbcpbgganaaGreatDoor
end

/- Texts of numbers: the reference's contracts (l01Dec, l01Text, l02Text). -/
section
namespace Go.Proofs.YtkdfdbcpbgganaaGreatDoor
open Go.RowKit Go.BigFrame

theorem dg_nat {n : Nat} (h : n < 10) : ((dg n).toNat : Int) = 48 + (n : Int) := by
  have : (dg n).toNat = 48 + n := by unfold dg; rw [UInt8.toNat_ofNat']; omega
  omega
theorem conv_at {n : Nat} (h : n < 10) {X : World} {g : Nat} (hX : X.cell? ⟨g, 0, none⟩ = some (.int .u8 (48 + (n : Int)))) : (convert 22 9 (.slice (some ⟨g, 0, none⟩) 1 1)).run Tryz.prog X = .ok (.string (S [dg n])) X :=
  run_convert_bytes_back _ _ _ 5 ⟨g, 0, none⟩ 1 [dg n] Tryz.underlying22 Tryz.underlying5 Tryz.underlying9 (fun j hj => by
    have : j = 0 := by simpa using hj
    subst this
    rw [add_none, hX]
    simp [dg_nat h])
theorem conv_one {n : Nat} (h : n < 10) (X : World) : (convert 22 9 (.slice (some ⟨X.heap.size, 0, none⟩) 1 1)).run Tryz.prog (X.alloc (.cells #[.int .u8 (48 + (n : Int))] 5)) = .ok (.string (S [dg n])) (X.alloc (.cells #[.int .u8 (48 + (n : Int))] 5)) :=
  run_convert_bytes_back _ _ _ 5 ⟨X.heap.size, 0, none⟩ 1 [dg n] Tryz.underlying22 Tryz.underlying5 Tryz.underlying9 (fun j hj => by
    have : j = 0 := by simpa using hj
    subst this
    rw [add_none, Nat.zero_add, (Blk.new X _ _).cell]
    simp [dg_nat h])

set_option maxHeartbeats 2000000 in
theorem spec_l01Dec_any : ∀ (n : Nat), n ≤ 1000000000000000000 → ∀ w : World,
    Calls Tryz.prog 114 #[.int .i64 (n : Int)] w fun e w' => e = .returned (.string (S (Lib.decDigits n))) ∧ Below w.heap.size w w' := by
  intro n
  induction n using Nat.strongRecOn with
  | _ n ih =>
    intro hn w
    by_cases h : n < 10
    · have Q := Lib.hid (dec_small h)
      have hi : (n : Int) < 10 := by omega
      have hC := conv_one h
      go_enter Tryz.func114, Tryz.ntmps114
      go_wp2
      go_ret
      exact ⟨by rw [Q.out]; rfl, (Below.refl _ _).alloc (Nat.le_refl _) _⟩
    · have Q := Lib.hid (dec_big h)
      have e1 : (n : Int).tdiv 10 = ((n / 10 : Nat) : Int) := by rw [Int.tdiv_eq_ediv_of_nonneg (by omega)]; omega
      have e2 : (n : Int).tmod 10 = ((n % 10 : Nat) : Int) := by rw [Int.tmod_eq_emod_of_nonneg (by omega)]; omega
      have c1 : ((n / 10 : Nat) : Int) = (n : Int) / 10 := by omega
      have c2 : ((n % 10 : Nat) : Int) = (n : Int) % 10 := by omega
      have IH := Lib.hid (fun X => (show Calls Tryz.prog 114 #[.int .i64 ((n : Int) / 10)] X fun e w' => e = .returned (.string (S (Lib.decDigits (n / 10)))) ∧ Below X.heap.size X w' from by rw [← c1]; exact ih (n / 10) (by omega) (by omega) X))
      have w1 : IntKind.i64.wrap ((n : Int) / 10) = (n : Int) / 10 := IntWalk.i64_in _ (by omega)
      have w2 : IntKind.i64.wrap (48 + (n : Int) % 10) = 48 + (n : Int) % 10 := IntWalk.i64_in _ (by omega)
      have w3 : IntKind.u8.wrap (48 + (n : Int) % 10) = 48 + (n : Int) % 10 := by
        simp [IntKind.wrap, IntKind.bits, IntKind.signed]; omega
      have hi : ¬ (n : Int) < 10 := by omega
      have hm : n % 10 < 10 := by omega
      clear ih
      have hC := conv_one hm
      rw [c2] at hC
      have z1 : (S (Lib.decDigits (n / 10))).size ≤ 18 := by rw [S_size]; exact dec_len (by omega) (by omega)
      have z2 : (S [dg (n % 10)]).size = 1 := S_size _
      have z3 : ¬ (9223372036854775807 < (S (Lib.decDigits (n / 10))).size + 1) := by omega
      have HCV := Lib.hid (fun X g => conv_at hm (X := X) (g := g))
      have hD := HCV.out (w.alloc (.cells #[.int .u8 (48 + (((n % 10 : Nat) : Int)))] 5)).drew w.heap.size ((Blk.new w 5 #[.int .u8 (48 + (((n % 10 : Nat) : Int)))]).drew.cell 0)
      rw [c2] at hD
      have HC2 := Lib.hid c2
      clear c1 c2
      have HDR := Lib.hid ((Below.refl w.heap.size w).drew)
      have HP := Lib.hid (fun w' (q : Below w.heap.size w w') (o : Obj) => q.alloc q.size o)
      go_enter Tryz.func114, Tryz.ntmps114
      go_wp2
      go_region_law (go_simp; go_at_call 114; refine (IH.out _).mono ?_; rintro e w1 ⟨rfl, hb1⟩; have hcc1 : Below w.heap.size w w1 := (by first | exact HDR.out.trans (hb1.mono HDR.out.size) | exact (HP.out _ HDR.out _).trans (hb1.mono (HP.out _ HDR.out _).size)); (first | (have hD1 := HCV.out w1 w.heap.size (by rw [HC2.out]; exact (Blk.below' (Blk.new w 5 #[.int .u8 (48 + (n : Int) % 10)]).drew hb1).cell 0)) | (have hD1 := HC2)))
      all_goals go_wp2
      all_goals (go_ret; exact ⟨by rw [Q.out, ← S_append]; rfl, by first | exact hcc1 | exact HP.out _ hcc1 _⟩)
theorem spec_l01Dec_int (z : Int) (h0 : 0 ≤ z) (h1 : z ≤ 1000000000000000000) (w : World) :
    Calls Tryz.prog 114 #[.int .i64 z] w fun e w' => e = .returned (.string (S (decL z))) ∧ Below w.heap.size w w' := by
  obtain ⟨n, rfl⟩ := Int.eq_ofNat_of_zero_le h0
  exact spec_l01Dec_any n (by omega) w
theorem toNat_dm (k a b c : Nat) : ((k : Int) / (a : Int) / (b : Int) % (c : Int)).toNat = k / a / b % c := by
  rw [← Int.natCast_ediv, ← Int.natCast_ediv, ← Int.natCast_emod, Int.toNat_natCast]
theorem decL_small {z : Int} (h : 0 ≤ z ∧ z < 10) : decL z = [dg z.toNat] := dec_small (by omega)

end Go.Proofs.YtkdfdbcpbgganaaGreatDoor
end

/- Ledgers: which lists are ledgers, turnovers and balances of an account: the program's and the reference's contracts over one plain function each. -/
section
namespace Go.Proofs.YtkdfdbcpbgganaaGreatDoor
open Go.RowKit Go.BigFrame

end Go.Proofs.YtkdfdbcpbgganaaGreatDoor
end

/- The text of a journal: a line: the reference's contract. -/
section
namespace Go.Proofs.YtkdfdbcpbgganaaGreatDoor
open Go.RowKit Go.BigFrame

theorem wpAnyH_strong {P : Program} {md : Region.Mode} {ops : Array Oper} {Q : Exit → Act → World → Prop} {S S2 : World → Prop} (h12 : ∀ w, S2 w → S w) : ∀ (fuel : Nat) (listed : Array Bool) (a : Act) (w : World), wpAnyH P md ops Q S2 fuel listed a w → wpAnyH P md ops Q S fuel listed a w
  | 0, _, _, _, h => h
  | fuel + 1, _, _, _, h => ⟨h.1, fun i hi => wpOp_mono (fun a' w' h' => ⟨h12 _ h'.1, wpAnyH_strong h12 fuel _ a' w' h'.2⟩) (h.2 i hi)⟩
theorem names_cell {w : World} {g k : Nat} (h : Blk w g 9 (nameL.map Value.string).toArray) (hk : k < 10) : w.cell? ⟨g, k, none⟩ = some (.string (nameB k)) := by
  rw [h.cell]
  have hl : nameL.length = 10 := rfl
  simp [nameB, List.getD, hl, hk]

end Go.Proofs.YtkdfdbcpbgganaaGreatDoor
end

/- Texts are read: the reference: l01Digits, MonthText, MoneyText, ReadMonth, l22Number. -/
section
namespace Go.Proofs.YtkdfdbcpbgganaaGreatDoor
open Go.RowKit Go.BigFrame

theorem valL_take {L : List UInt8} {k : Nat} (h : k < L.length) : valL 0 (L.take (k + 1)) = valL 0 (L.take k) * 10 + (L[k].toNat - 48) := by
  rw [List.take_add_one, List.getElem?_eq_getElem h, Option.toList_some, valL_append]; rfl
theorem digits_take {L : List UInt8} {k : Nat} (h : k < L.length) (hd : DigitsL (L.take k)) (h1 : 48 ≤ L[k].toNat) (h2 : L[k].toNat ≤ 57) : DigitsL (L.take (k + 1)) := by
  rw [List.take_add_one, List.getElem?_eq_getElem h, Option.toList_some]
  refine digits_append hd fun c hc => ?_
  simp at hc; subst hc; exact ⟨h1, h2⟩
theorem digitR_lt {v k d : Nat} (h : v < 10 ^ k) (hd : d ≤ 9) : v * 10 + d < 10 ^ (k + 1) := by rw [Nat.pow_succ]; omega
theorem pow_le {v k j : Nat} (h : v < 10 ^ k) (hk : k ≤ j) : v < 10 ^ j := Nat.lt_of_lt_of_le h (Nat.pow_le_pow_right (by omega) hk)

/-- a number's text -/
def DecIs (s : ByteArray) (m : Int) : Prop := (0 ≤ m ∧ m ≤ 9999999999999) ∧ s = S (decL m)
theorem decIs_val {s : ByteArray} {m : Int} (h : DecIs s m) : DigitsL s.data.toList ∧ ((valL 0 s.data.toList : Nat) : Int) = m ∧ 1 ≤ s.size ∧ s.size ≤ 13 := by
  obtain ⟨⟨h0, h1⟩, h2⟩ := h
  obtain ⟨k, rfl⟩ := Int.eq_ofNat_of_zero_le h0
  obtain ⟨d, v⟩ := dec_digits k
  have h3 : s.data.toList = Lib.decDigits k := by rw [h2, S_list]; rfl
  rw [h3]
  have h5 : s.size = (Lib.decDigits k).length := by rw [← h3]; rfl
  rw [h5]
  exact ⟨d, by rw [v], dec_pos k, dec_len (by omega) (by omega)⟩

def SmallN (e : Ending) : Prop := ∃ (n : Int) (b : Bool), e = .returned (.tuple #[.int .i64 n, .bool b]) ∧ 0 ≤ n ∧ n ≤ 9999999999999
def ReadsD (s : ByteArray) (w w' : World) (e : Ending) : Prop := Reads (DecIs s) w w' e ∧ SmallN e
set_option maxHeartbeats 4000000 in
theorem spec_l01Digits_any (s : ByteArray) (w : World) :
    Calls Tryz.prog 113 #[.string s] w fun e w' => ReadsD s w w' e := by
  have hsl : s.data.toList.length = s.size := rfl
  have HL := Lib.hid hsl; clear hsl
  have HP := Lib.hid (fun m (h : DecIs s m) => decIs_val h)
  by_cases h1 : s.size < 1
  · have h1i : (s.size : Int) < 1 := by omega
    go_enter Tryz.func113, Tryz.ntmps113
    go_wp2
    go_ret2
    exact ⟨⟨0, false, rfl, by unfold In64; omega, fun m hm => absurd (HP.out m hm).2.2.1 (by omega), Below.refl _ _⟩, 0, false, rfl, by omega, by omega⟩
  have h1i : ¬ (s.size : Int) < 1 := by omega
  by_cases h2 : 13 < s.size
  · have h2i : (13 : Int) < (s.size : Int) := by omega
    go_enter Tryz.func113, Tryz.ntmps113
    go_wp2
    go_ret2
    exact ⟨⟨0, false, rfl, by unfold In64; omega, fun m hm => absurd (HP.out m hm).2.2.2 (by omega), Below.refl _ _⟩, 0, false, rfl, by omega, by omega⟩
  have h2i : ¬ (13 : Int) < (s.size : Int) := by omega
  go_enter Tryz.func113, Tryz.ntmps113
  go_wp2
  go_loopw [4, 5] (fun n i wr => ∃ k : Nat, k ≤ s.size ∧ i = .int .i64 k ∧ n = .int .i64 ((valL 0 (s.data.toList.take k) : Nat) : Int) ∧ Hid (valL 0 (s.data.toList.take k) < 10 ^ k) ∧ wr = w) (fun _ i _ => s.size - (intOf i).toNat)
  case atStart => exact ⟨0, by omega, rfl, rfl, Lib.hid (by simp [valL]), rfl⟩
  case round =>
    obtain ⟨k, hk, rfl, rfl, HV, rfl⟩ := hrel
    by_cases hlt : k < s.size
    · have hLk : k < s.data.toList.length := by rw [HL.out]; exact hlt
      have HGE := Lib.hid (show s.data.toList[k] = s[k] from rfl)
      have HTk := Lib.hid (valL_take hLk)
      have hv : valL 0 (s.data.toList.take k) < 10000000000000 := pow_le HV.out (by omega : k ≤ 13)
      generalize hvv : valL 0 (s.data.toList.take k) = v at HV HTk hv ⊢
      clear hvv
      by_cases hd1 : s[k].toNat < 48
      · have hd1i : (s[k].toNat : Int) < 48 := by omega
        have HNO := Lib.hid (fun m (hm : DecIs s m) => (show False from by
          have := (HP.out m hm).1 s.data.toList[k] (List.getElem_mem hLk)
          rw [HGE.out] at this; omega))
        go_wp2
        go_ret2
        exact ⟨⟨0, false, rfl, by unfold In64; omega, fun m hm => (HNO.out m hm).elim, Below.refl _ _⟩, 0, false, rfl, by omega, by omega⟩
      by_cases hd2 : 57 < s[k].toNat
      · have hd1i : ¬ (s[k].toNat : Int) < 48 := by omega
        have hd2i : (57 : Int) < (s[k].toNat : Int) := by omega
        have HNO := Lib.hid (fun m (hm : DecIs s m) => (show False from by
          have := (HP.out m hm).1 s.data.toList[k] (List.getElem_mem hLk)
          rw [HGE.out] at this; omega))
        go_wp2
        go_ret2
        exact ⟨⟨0, false, rfl, by unfold In64; omega, fun m hm => (HNO.out m hm).elim, Below.refl _ _⟩, 0, false, rfl, by omega, by omega⟩
      have hd1i : ¬ (s[k].toNat : Int) < 48 := by omega
      have hd2i : ¬ (57 : Int) < (s[k].toNat : Int) := by omega
      have HN := Lib.hid (show valL 0 (s.data.toList.take (k + 1)) < 10 ^ (k + 1) ∧ ((valL 0 (s.data.toList.take (k + 1)) : Nat) : Int) = 10 * (v : Int) + ((s[k].toNat : Int) - 48) from by
        rw [HTk.out, HGE.out]
        exact ⟨digitR_lt HV.out (by omega), by omega⟩)
      go_wp2
      go_roundw
      case rel => exact ⟨k + 1, by omega, by go_num, by rw [HN.out.2], Lib.hid HN.out.1, trivial⟩
      case measure => simp [intOf]; omega
    · have hkn : k = s.size := by omega
      subst hkn
      have HA := Lib.hid (show s.data.toList.take s.size = s.data.toList from List.take_of_length_le (by rw [HL.out]; exact Nat.le_refl _))
      rw [HA.out] at HV ⊢
      have hv : valL 0 s.data.toList < 10000000000000 := pow_le HV.out (by omega : s.size ≤ 13)
      generalize hvv : valL 0 s.data.toList = v at HV HP hv ⊢
      clear hvv
      change Hid _ at HP
      go_wp2_with fail
      refine (spec_l01Dec_int (v : Int) (by omega) (by omega) _).mono ?_
      rintro e w1 ⟨rfl, hb⟩
      by_cases hq : S (decL (v : Int)) = s
      · have hql := str_eq hq
        go_wp2
        go_ret2
        exact ⟨⟨v, true, rfl, by unfold In64; omega, fun m hm => ⟨(HP.out m hm).2.1, rfl⟩, hb⟩, v, true, rfl, by omega, by omega⟩
      · have hql := str_ne hq
        have HQ := Lib.hid hq; clear hq
        go_wp2
        go_ret2
        exact ⟨⟨v, false, rfl, by unfold In64; omega, fun m hm => absurd (by rw [(HP.out m hm).2.1]; exact hm.2.symm) HQ.out, hb⟩, v, false, rfl, by omega, by omega⟩
end Go.Proofs.YtkdfdbcpbgganaaGreatDoor
end

/- Numbers apart by blanks are read: the program: readDecimal, readJoined. -/
section
namespace Go.Proofs.YtkdfdbcpbgganaaGreatDoor
open Go.RowKit Go.BigFrame

theorem decIs_parse {s : ByteArray} {m : Int} (h : DecIs s m) : Lib.parseIntB 64 s.data.toList = .ok m := by
  obtain ⟨h1, h2, h3, _⟩ := decIs_val h
  have hm := h.1
  have hvb : valL 0 s.data.toList ≤ 1000000000000000000 := by omega
  rw [parseInt_digits (by intro h0; have : s.size = s.data.toList.length := rfl; rw [h0, List.length_nil] at this; omega) h1 hvb, h2]
/-- what a reader of a number says -/
def NumE (s : ByteArray) (w w' : World) (e : Ending) : Prop := ∃ (n : Int) (b : Bool), e = .returned (.tuple #[.int .i64 n, .bool b]) ∧ In64 n ∧ (b = true → 0 ≤ n → s = S (decL n)) ∧ (∀ m, DecIs s m → n = m ∧ b = true) ∧ Below w.heap.size w w'
set_option maxHeartbeats 2000000 in
theorem impl_readDecimal_any (s : ByteArray) (hs : s.size ≤ 100000) (w : World) (hE : Env w) :
    Calls Tryz.prog 80 #[.string s] w fun e w' => NumE s w w' e := by
  have HE := Lib.hid hE; clear hE
  go_enter Tryz.func80, Tryz.ntmps80
  go_wp2_with fail
  refine (parse_any s (by omega) w HE.out).mono ?_
  rintro e w1 ⟨v, ev, rfl, hv, hev, hp, hb⟩
  have HK := Lib.hid (fun m (hm : DecIs s m) => (show v = m ∧ ev = .nilIface from hp m (decIs_parse hm)))
  have HV := Lib.hid hv
  have HB := Lib.hid hb
  clear hv hp hb
  rcases hev with rfl | ⟨te, N, rfl⟩
  rotate_left
  · go_wp2
    go_ret2
    exact ⟨0, false, rfl, by unfold In64; omega, fun h => (by cases h), fun m hm => (by have := (HK.out m hm).2; cases this), HB.out⟩
  by_cases hneg : v < 0
  · go_wp2
    go_ret2
    exact ⟨0, false, rfl, by unfold In64; omega, fun h => (by cases h), fun m hm => absurd (HK.out m hm).1 (by have := hm.1; omega), HB.out⟩
  go_wp2_with fail
  refine (impl_decimal_any v HV.out w1 ((HE.out.past HB.out).tab)).mono ?_
  rw [itoa_pos (by omega)]
  rintro e w2 ⟨rfl, hb2⟩
  have HB2 := Lib.hid (HB.out.trans (hb2.mono HB.out.size)); clear hb2
  by_cases hq : S (decL v) = s
  · have hql := str_eq hq
    have HQ := Lib.hid hq; clear hq
    go_wp2
    go_ret2
    exact ⟨v, true, rfl, HV.out, fun _ _ => HQ.out.symm, fun m hm => ⟨(HK.out m hm).1, rfl⟩, HB2.out⟩
  · have hql := str_ne hq
    have HQ := Lib.hid hq; clear hq
    go_wp2
    go_ret2
    exact ⟨0, false, rfl, by unfold In64; omega, fun h => (by cases h), fun m hm => absurd (by rw [(HK.out m hm).1]; exact hm.2.symm) HQ.out, HB2.out⟩

/-- the words read so far -/
structure Nums (ws : List (List UInt8)) (ns : List Int) (k : Nat) : Prop where
  len : ns.length = k
  fit : ∀ x ∈ ns, In64 x
  back : ∀ (j : Nat) (x : Int) (p : List UInt8), ns[j]? = some x → ws[j]? = some p → 0 ≤ x → p = decL x
  forth : ∀ ms : List Int, (∀ m ∈ ms, 0 ≤ m ∧ m ≤ 9999999999999) → ws = ms.map decL → ns = ms.take k
theorem Nums.nil (ws : List (List UInt8)) : Nums ws [] 0 := ⟨rfl, by simp, fun j x p h => by simp at h, fun ms _ _ => by simp⟩
theorem Nums.snoc {ws : List (List UInt8)} {ns : List Int} {k : Nat} {p : List UInt8} {n : Int} (h : Nums ws ns k) (hp : ws[k]? = some p) (hn : In64 n) (h1 : 0 ≤ n → S p = S (decL n)) (h2 : ∀ m, DecIs (S p) m → n = m) : Nums ws (ns ++ [n]) (k + 1) := by
  refine ⟨by simp [h.len], ?_, ?_, ?_⟩
  · intro x hx
    rcases List.mem_append.1 hx with hx | hx
    · exact h.fit x hx
    · simp only [List.mem_singleton] at hx; rw [hx]; exact hn
  · intro j x q hx hq h0
    rcases Nat.lt_or_ge j k with hj | hj
    · rw [List.getElem?_append_left (by rw [h.len]; exact hj)] at hx
      exact h.back j x q hx hq h0
    · have hjl := (List.getElem?_eq_some_iff.1 hx).1
      rw [List.length_append, h.len] at hjl
      have hjk : j = k := by simp at hjl; omega
      subst hjk
      rw [List.getElem?_append_right (by rw [h.len]; exact Nat.le_refl _), h.len, Nat.sub_self] at hx
      simp only [List.getElem?_cons_zero, Option.some.injEq] at hx
      subst hx
      rw [hp] at hq
      injection hq with hq
      rw [← hq]
      exact S_inj (h1 h0)
  · intro ms hm he
    have ih := h.forth ms hm he
    have hk : k < ms.length := by
      have := (List.getElem?_eq_some_iff.1 hp).1
      rw [he, List.length_map] at this
      exact this
    rw [List.take_add_one, ← ih, List.getElem?_eq_getElem hk, Option.toList_some]
    congr 1
    rw [he, List.getElem?_map, List.getElem?_eq_getElem hk] at hp
    injection hp with hp
    have := h2 ms[k] ⟨hm _ (List.getElem_mem hk), by rw [← hp]⟩
    rw [this]
/-- what a reader of a list of numbers says -/
def NumsE (s : ByteArray) (w w' : World) (e : Ending) : Prop := ∃ (A : Option Addr) (n c : Nat) (b : Bool) (ns : List Int), e = .returned (.tuple #[.slice A n c, .bool b]) ∧ Res w.heap.size w' 2 1 A n c (intRows ns) ∧
  (b = true → Nums (cutL 32 s.data.toList) ns (cutL 32 s.data.toList).length) ∧ (b = false → ns = [] ∧ ∀ ms : List Int, (∀ m ∈ ms, 0 ≤ m ∧ m ≤ 9999999999999) → ¬ cutL 32 s.data.toList = ms.map decL) ∧ Below w.heap.size w w'
theorem no_nums {ws : List (List UInt8)} {k : Nat} {p : List UInt8} (hp : ws[k]? = some p) (h : ∀ m, ¬ DecIs (S p) m) (ms : List Int) (hm : ∀ m ∈ ms, 0 ≤ m ∧ m ≤ 9999999999999) : ¬ ws = ms.map decL := by
  intro he
  have hk : k < ms.length := by
    have := (List.getElem?_eq_some_iff.1 hp).1
    rw [he, List.length_map] at this
    exact this
  rw [he, List.getElem?_map, List.getElem?_eq_getElem hk] at hp
  injection hp with hp
  exact h ms[k] ⟨hm _ (List.getElem_mem hk), by rw [← hp]⟩
theorem wordsCell {w : World} {ws : List (List UInt8)} {k : Nat} {x : List UInt8} (h : ws[k]? = some x) :
    (w.alloc (.cells ((ws.map S).map Value.string).toArray 9)).cell? ⟨w.heap.size, k, none⟩ = some (.string (S x)) := by
  rw [(Blk.new w _ _).cell, List.getElem?_toArray, List.getElem?_map, List.getElem?_map, h]; rfl

set_option maxHeartbeats 4000000 in
set_option maxRecDepth 100000 in
theorem impl_readJoined_any (s : ByteArray) (hs : s.size ≤ 100000) (w : World) (hE : Env w) :
    Calls Tryz.prog 43 #[.string s] w fun e w' => NumsE s w w' e := by
  obtain ⟨i0, hi0, hj0, hj1, hj2⟩ := info_parts Int64.info
  have HI := Lib.hid (And.intro hi0 (And.intro hj0 (And.intro hj1 hj2))); clear hi0 hj0 hj1 hj2
  have HLL := Lib.hid (show s.data.toList.length = s.size from rfl)
  have HE := Lib.hid hE; clear hE
  have HR0 := Lib.hid (show Res w.heap.size (w.alloc (.cells #[] 2)) 2 1 (some ⟨w.heap.size, 0, none⟩) 0 0 (intRows []) from Res.zero w w.heap.size 2 1 (Nat.le_refl _))
  have HW0 := Lib.hid ((Below.refl w.heap.size w).alloc (Nat.le_refl _) (.cells #[] 2))
  have hz0 : (w.alloc (.cells #[] 2)).heap.size = w.heap.size + 1 := by simp
  go_enter Tryz.func43, Tryz.ntmps43
  go_wp2_with fail
  generalize w.alloc _ = W at HW0 HR0 hz0 ⊢
  obtain ⟨mx, hmx⟩ := (HE.out.past HW0.out).mx
  refine (Tryz.strings_Split s ⟨#[32]⟩ mx W (by omega) hmx (by show 1 ≤ 1; omega)).mono ?_
  rw [splitB_cut, countB_one]
  rintro e w1 ⟨rfl, rfl⟩
  clear hmx
  obtain ⟨ws, hws⟩ : ∃ ws, cutL 32 s.data.toList = ws := ⟨_, rfl⟩
  have HWL := Lib.hid (cutL_le 32 s.data.toList)
  have HCL := Lib.hid (show (cutL 32 s.data.toList).length ≤ 100001 by rw [cutL_len]; have := List.count_le_length (a := (32 : UInt8)) (l := s.data.toList); have := HLL.out; omega)
  rw [hws] at HWL HCL ⊢
  have HWS := Lib.hid hws; clear hws
  obtain ⟨n, hn⟩ : ∃ n, ws.length = n := ⟨_, rfl⟩
  have hn2 : n ≤ 100001 := by have := HCL.out; omega
  have HLN := Lib.hid hn
  have HB1 := Lib.hid (HW0.out.alloc (by omega) (.cells ((ws.map S).map Value.string).toArray 9))
  have HR1 := Lib.hid (HR0.out.past ((Below.refl W.heap.size W).alloc (Nat.le_refl _) (.cells ((ws.map S).map Value.string).toArray 9)))
  have HWC := Lib.hid (fun k x (h : ws[k]? = some x) => wordsCell (w := W) h)
  have HLE := Lib.hid (fun k (x : List UInt8) (h : ws[k]? = some x) => (show x.length ≤ 100000 by
    have h1 := HWL.out x (List.mem_of_getElem? h)
    have h2 := HLL.out
    omega))
  rw [hn]
  have hz1 : (W.alloc (.cells ((ws.map S).map Value.string).toArray 9)).heap.size = w.heap.size + 2 := by simp [hz0]
  rw [hz0] at HWC ⊢
  generalize W.alloc (.cells ((ws.map S).map Value.string).toArray 9) = W1 at HB1 HR1 HWC hz1 ⊢
  clear HR0 HW0 HWL HCL hn hz0
  go_wp2
  go_loopw [4, 13] (fun o i wr => ∃ (k cap : Nat) (A : Option Addr) (ns : List Int), k ≤ n ∧ i = .int .i64 k ∧ o = .slice A k cap ∧ Hid (Res w.heap.size wr 2 1 A k cap (intRows ns)) ∧ Hid (Nums ws ns k) ∧ Hid (∀ j x, ws[j]? = some x → wr.cell? ⟨w.heap.size + 1, j, none⟩ = some (.string (S x))) ∧ Hid (blkOf A ≠ some (w.heap.size + 1)) ∧ Hid (Below w.heap.size w wr) ∧ w.heap.size + 2 ≤ wr.heap.size) (fun _ i _ => n - (intOf i).toNat)
  case atStart => exact ⟨0, 0, _, [], by omega, rfl, rfl, HR1, Lib.hid (Nums.nil ws), HWC, Lib.hid (by simp [blkOf]), HB1, by omega⟩
  case round =>
    obtain ⟨k, cap, A, ns, hk, rfl, rfl, HR, HNS, HC, HNB, HB, hzr⟩ := hrel
    clear HR1 HWC HB1
    by_cases hlt : k < n
    · obtain ⟨l, hl⟩ := get_of_lt (xs := ws) (k := k) (by rw [HLN.out]; exact hlt)
      have hki : (k : Int) < (n : Int) := by omega
      have cl := HC.out k l hl
      obtain ⟨sl, hsl⟩ : ∃ sl, S l = sl := ⟨_, rfl⟩
      rw [hsl] at cl
      have hlz : sl.size ≤ 100000 := by have := HLE.out k l hl; rw [← hsl, S_size]; omega
      have HSL := Lib.hid hsl
      have Hl := Lib.hid hl
      clear hsl hl
      go_wp2_with fail
      refine (impl_readDecimal_any sl hlz wr (HE.out.past HB.out)).mono ?_
      rintro e w2 ⟨x, b, rfl, hx64, hxb, hxf, hb⟩
      have HB2 := Lib.hid (HB.out.trans (hb.mono HB.out.size))
      have HR2 := Lib.hid (HR.out.past hb)
      have hz2 : w.heap.size + 2 ≤ w2.heap.size := Nat.le_trans hzr hb.size
      have HC2 := Lib.hid (show ∀ j x, ws[j]? = some x → w2.cell? ⟨w.heap.size + 1, j, none⟩ = some (.string (S x)) from fun j x h => (hb.cell (show w.heap.size + 1 < wr.heap.size by omega)).trans (HC.out j x h))
      cases b
      · have HNO := Lib.hid (show ∀ ms : List Int, (∀ m ∈ ms, 0 ≤ m ∧ m ≤ 9999999999999) → ¬ ws = ms.map decL from no_nums Hl.out (fun m hm => (by have := (hxf m (by rw [← HSL.out]; exact hm)).2; cases this)))
        clear hx64 hxb hxf hb
        go_wp2
        go_ret2
        exact ⟨none, 0, 0, false, [], rfl, Res.nil_, fun h => (by cases h), fun _ => ⟨rfl, by rw [HWS.out]; exact HNO.out⟩, HB2.out⟩
      · have HN2 := Lib.hid (HNS.out.snoc Hl.out hx64 (fun h0 => by rw [HSL.out]; exact hxb rfl h0) (fun m hm => (hxf m (by rw [← HSL.out]; exact hm)).1))
        clear hx64 hxb hxf hb HR HC HB
        have hbsz := HB2.out.size
        go_wp2_with (at_builtin; refine wpList_append_row_at _ rfl _ _ _ rfl w.heap.size 2 i0 _ 1 8 Tryz.underlying24 HI.out.1 HI.out.2.1 HI.out.2.2.1 HI.out.2.2.2 rfl (by decide) (by decide) A k cap _ rfl HR2.out [.int .i64 x] _ rfl rfl (by simp [Value.oneCell']) (by omega) hbsz ?_; intro A9 c9 w9 hR9 hb9 hkb hbk)
        rw [← intRows_snoc] at hR9
        have HR9 := Lib.hid hR9
        have HB9 := Lib.hid (HB2.out.trans hb9)
        have HC9 := Lib.hid (show ∀ j x, ws[j]? = some x → w9.cell? ⟨w.heap.size + 1, j, none⟩ = some (.string (S x)) from fun j x h => (World.cell?_of_block (hkb (w.heap.size + 1) (by omega) (fun h9 => HNB.out h9.symm))).trans (HC2.out j x h))
        have HNB9 := Lib.hid (show blkOf A9 ≠ some (w.heap.size + 1) from fun h9 => by
          rcases hbk with h8 | h8
          · exact HNB.out (h8.symm.trans h9)
          · rw [h8] at h9; injection h9; omega)
        have hz9 : w.heap.size + 2 ≤ w9.heap.size := Nat.le_trans hz2 hb9.size
        clear hR9 hb9 hkb hbk
        go_wp2
        go_roundw
        case rel => exact ⟨k + 1, c9, A9, ns ++ [x], by omega, by go_num, rfl, HR9, HN2, HC9, HNB9, HB9, hz9⟩
        case measure => simp [intOf]; omega
    · have hkn : k = n := by omega
      subst hkn
      go_wp2
      go_ret2
      exact ⟨A, k, cap, true, ns, rfl, HR.out, fun _ => by rw [HWS.out, HLN.out]; exact HNS.out, fun h => (by cases h), HB.out⟩
end Go.Proofs.YtkdfdbcpbgganaaGreatDoor
end

/- A text is cut: the reference's l01Split. -/
section
namespace Go.Proofs.YtkdfdbcpbgganaaGreatDoor
open Go.RowKit Go.BigFrame

def strRows (ps : List (List UInt8)) : List (List Value) := ps.map fun p => [.string (S p)]
theorem strRows_snoc (ps : List (List UInt8)) (p : List UInt8) : strRows (ps ++ [p]) = strRows ps ++ [[.string (S p)]] := by simp [strRows]
theorem strRows_get {ps : List (List UInt8)} {k : Nat} {p : List UInt8} (h : ps[k]? = some p) : (strRows ps)[k]? = some [.string (S p)] := by simp [strRows, h]
theorem strInf : (Tryz.prog.info? 9).map (fun i => (i.zero, i.size, i.bytes)) = some (some (.string ⟨#[]⟩), 1, 16) := by kernel_rfl
theorem cut_step {c : UInt8} {L : List UInt8} {f i : Nat} (hfi : f ≤ i) (hi : i < L.length) (hno : c ∉ (L.drop f).take (i - f)) (hc : L[i] = c) :
    cutL c (L.drop f) = (L.drop f).take (i - f) :: cutL c (L.drop (i + 1)) := by
  have e : L.drop f = (L.drop f).take (i - f) ++ c :: L.drop (i + 1) := by
    conv => lhs; rw [← List.take_append_drop (i - f) (L.drop f)]
    rw [List.drop_drop, show f + (i - f) = i by omega, List.drop_eq_getElem_cons hi, hc]
  conv => lhs; rw [e]
  exact cutL_at _ hno
theorem free_step {c : UInt8} {L : List UInt8} {f i : Nat} (hfi : f ≤ i) (hi : i < L.length) (hno : c ∉ (L.drop f).take (i - f)) (hc : ¬ L[i] = c) :
    c ∉ (L.drop f).take (i + 1 - f) := by
  rw [show i + 1 - f = (i - f) + 1 by omega, List.take_add_one, List.getElem?_drop, show f + (i - f) = i by omega, List.getElem?_eq_getElem hi]
  simp only [Option.toList_some, List.mem_append, List.mem_singleton]
  rintro (h | h)
  · exact hno h
  · exact hc h.symm
theorem extract_S (s : ByteArray) (f i : Nat) : s.extract f i = S ((s.data.toList.drop f).take (i - f)) := by
  rw [← S_of (s.extract f i), ByteArray.data_extract, Array.toList_extract, List.extract_eq_take_drop]

set_option maxRecDepth 20000 in
set_option maxHeartbeats 4000000 in
theorem spec_l01Split_any (s : ByteArray) (c : UInt8) (hs : s.size ≤ 100000) (w : World) :
    Calls Tryz.prog 46 #[.string s, .int .u8 (c.toNat : Int)] w fun e w' => ∃ (A : Option Addr) (n cap : Nat), e = .returned (.slice A n cap) ∧ n = (cutL c s.data.toList).length ∧ Res w.heap.size w' 9 1 A n cap (strRows (cutL c s.data.toList)) ∧ Below w.heap.size w w' := by
  obtain ⟨i0, hi0, hz0, hz1, hz2⟩ := info_parts strInf
  have HI := Lib.hid (And.intro hi0 (And.intro hz0 (And.intro hz1 hz2))); clear hi0 hz0 hz1 hz2
  have HR0 := Lib.hid (show Res w.heap.size (w.alloc (.cells #[] 9)) 9 1 (some ⟨w.heap.size, 0, none⟩) 0 0 (strRows []) from Res.zero w w.heap.size 9 1 (Nat.le_refl _))
  have HB0 := Lib.hid ((Below.refl w.heap.size w).alloc (Nat.le_refl _) (.cells #[] 9))
  have hsl : s.data.toList.length = s.size := rfl
  have HL := Lib.hid hsl; clear hsl
  go_enter Tryz.func46, Tryz.ntmps46
  go_wp2
  go_loopw [5, 6, 7] (fun o f i wr => ∃ (k q m cap : Nat) (A : Option Addr) (ps : List (List UInt8)), q ≤ s.size + 1 ∧ k ≤ q ∧ i = .int .i64 q ∧ f = .int .i64 k ∧ o = .slice A m cap ∧ m ≤ q ∧ Hid (Res w.heap.size wr 9 1 A m cap (strRows ps)) ∧ Hid (Below w.heap.size w wr) ∧ Hid (if q ≤ s.size then cutL c s.data.toList = ps ++ cutL c (s.data.toList.drop k) ∧ c ∉ (s.data.toList.drop k).take (q - k) else cutL c s.data.toList = ps)) (fun _ _ i _ => s.size + 1 - (intOf i).toNat)
  case atStart => exact ⟨0, 0, 0, 0, _, [], by omega, by omega, rfl, rfl, rfl, by omega, HR0, HB0, Lib.hid (by rw [if_pos (Nat.zero_le _)]; simp)⟩
  case round =>
    obtain ⟨k, q, m, cap, A, ps, hq, hkq, rfl, rfl, rfl, hm, HR, HB, HC⟩ := hrel
    clear HR0 HB0
    by_cases hlt : q < s.size
    · have hqi : (q : Int) ≤ (s.size : Int) := by omega
      have hqe : ¬ (q : Int) = (s.size : Int) := by omega
      have hqr : 0 ≤ (q : Int) ∧ (q : Int) < (s.size : Int) := by omega
      have hLq : q < s.data.toList.length := by rw [HL.out]; exact hlt
      have hge : s.data.toList[q] = s[q] := rfl
      obtain ⟨hc1, hc2⟩ := (show cutL c s.data.toList = ps ++ cutL c (s.data.toList.drop k) ∧ c ∉ (s.data.toList.drop k).take (q - k) from by have h := HC.out; rw [if_pos (by omega)] at h; exact h)
      have HC1 := Lib.hid hc1; clear hc1
      have HC2 := Lib.hid hc2; clear hc2
      have HGE := Lib.hid hge; clear hge
      by_cases hcc : s[q] = c
      · have hcb : ((s[q].toNat : Int) == (c.toNat : Int)) = true := by rw [hcc]; simp
        have HR6 := Lib.hid (show cutL c s.data.toList = (ps ++ [(s.data.toList.drop k).take (q - k)]) ++ cutL c (s.data.toList.drop (q + 1)) from by
          rw [HC1.out, cut_step hkq hLq HC2.out (HGE.out.trans hcc)]; simp)
        have HEX := Lib.hid (extract_S s k q)
        clear hcc
        go_wp2_with (at_builtin; refine wpList_append_row_at _ rfl _ _ _ rfl w.heap.size 9 i0 _ 1 16 Tryz.underlying72 HI.out.1 HI.out.2.1 HI.out.2.2.1 HI.out.2.2.2 rfl (by decide) (by decide) A m cap _ rfl HR.out [.string (s.extract k q)] _ rfl rfl (by simp [Value.oneCell']) (by omega) HB.out.size ?_; intro A2 c2 w5 hR5 hb5 _ _)
        rw [HEX.out, ← strRows_snoc] at hR5
        have HR5 := Lib.hid hR5
        have HB5 := Lib.hid (HB.out.trans hb5)
        clear hR5 hb5 hcb
        go_wp2
        go_roundw
        case rel => exact ⟨q + 1, q + 1, m + 1, c2, A2, _, by omega, by omega, by go_num, by go_num, rfl, by omega, HR5, HB5, Lib.hid (by
          rw [if_pos (by omega)]
          exact ⟨HR6.out, by simp⟩)⟩
        case measure => simp [intOf]; omega
      · have hcb : ((s[q].toNat : Int) == (c.toNat : Int)) = false := by
          rw [beq_eq_false_iff_ne]
          intro h
          exact hcc (UInt8.toNat_inj.1 (by omega))
        have HF := Lib.hid (free_step hkq hLq HC2.out (fun h => hcc (HGE.out.symm.trans h)))
        clear hcc
        go_wp2
        go_roundw
        case rel => exact ⟨k, q + 1, m, cap, A, ps, by omega, by omega, by go_num, rfl, rfl, by omega, HR, HB, Lib.hid (by
          rw [if_pos (by omega)]
          exact ⟨HC1.out, HF.out⟩)⟩
        case measure => simp [intOf]; omega
    · by_cases hqq : q = s.size
      · subst hqq
        obtain ⟨hc1, hc2⟩ := (show cutL c s.data.toList = ps ++ cutL c (s.data.toList.drop k) ∧ c ∉ (s.data.toList.drop k).take (s.size - k) from by have h := HC.out; rw [if_pos (Nat.le_refl _)] at h; exact h)
        have HR6 := Lib.hid (show cutL c s.data.toList = ps ++ [(s.data.toList.drop k).take (s.size - k)] from by
          have h1 : (s.data.toList.drop k).take (s.size - k) = s.data.toList.drop k := List.take_of_length_le (by rw [List.length_drop, HL.out]; omega)
          rw [h1] at hc2
          rw [hc1, h1, cutL_free hc2])
        have HEX := Lib.hid (extract_S s k s.size)
        clear hc1 hc2 HC
        go_wp2_with (at_builtin; refine wpList_append_row_at _ rfl _ _ _ rfl w.heap.size 9 i0 _ 1 16 Tryz.underlying72 HI.out.1 HI.out.2.1 HI.out.2.2.1 HI.out.2.2.2 rfl (by decide) (by decide) A m cap _ rfl HR.out [.string (s.extract k s.size)] _ rfl rfl (by simp [Value.oneCell']) (by omega) HB.out.size ?_; intro A2 c2 w5 hR5 hb5 _ _)
        rw [HEX.out, ← strRows_snoc] at hR5
        have HR5 := Lib.hid hR5
        have HB5 := Lib.hid (HB.out.trans hb5)
        clear hR5 hb5
        go_wp2
        go_roundw
        case rel => exact ⟨s.size + 1, s.size + 1, m + 1, c2, A2, _, by omega, by omega, by go_num, by go_num, rfl, by omega, HR5, HB5, Lib.hid (by
          rw [if_neg (by omega)]
          exact HR6.out)⟩
        case measure => simp [intOf]
      · have hqi : ¬ (q : Int) ≤ (s.size : Int) := by omega
        have hc1 := (show cutL c s.data.toList = ps from by have h := HC.out; rw [if_neg (by omega)] at h; exact h)
        have HC1 := Lib.hid hc1; clear hc1 HC
        go_wp2
        go_ret
        have hmm : m = ps.length := by have := HR.out.len; rw [← this]; simp [strRows]
        exact ⟨A, m, cap, rfl, by rw [HC1.out]; exact hmm, by rw [HC1.out]; exact HR.out, HB.out⟩
end Go.Proofs.YtkdfdbcpbgganaaGreatDoor
end

/- Numbers apart by blanks are read: the reference: l01Digits, l01Signed, l01Numbers. -/
section
namespace Go.Proofs.YtkdfdbcpbgganaaGreatDoor
open Go.RowKit Go.BigFrame

def DigE (s : ByteArray) (w w' : World) (e : Ending) : Prop := ∃ (n : Int) (b : Bool), e = .returned (.tuple #[.int .i64 n, .bool b]) ∧ (0 ≤ n ∧ n ≤ 9999999999999) ∧ (b = true → s = S (decL n)) ∧ (∀ m, DecIs s m → n = m ∧ b = true) ∧ Below w.heap.size w w'
set_option maxHeartbeats 4000000 in
theorem spec_l01Digits_full (s : ByteArray) (w : World) :
    Calls Tryz.prog 113 #[.string s] w fun e w' => DigE s w w' e := by
  have hsl : s.data.toList.length = s.size := rfl
  have HL := Lib.hid hsl; clear hsl
  have HP := Lib.hid (fun m (h : DecIs s m) => decIs_val h)
  by_cases h1 : s.size < 1
  · have h1i : (s.size : Int) < 1 := by omega
    go_enter Tryz.func113, Tryz.ntmps113
    go_wp2
    go_ret2
    exact ⟨0, false, rfl, ⟨by omega, by omega⟩, fun h => (by cases h), fun m hm => absurd (HP.out m hm).2.2.1 (by omega), Below.refl _ _⟩
  have h1i : ¬ (s.size : Int) < 1 := by omega
  by_cases h2 : 13 < s.size
  · have h2i : (13 : Int) < (s.size : Int) := by omega
    go_enter Tryz.func113, Tryz.ntmps113
    go_wp2
    go_ret2
    exact ⟨0, false, rfl, ⟨by omega, by omega⟩, fun h => (by cases h), fun m hm => absurd (HP.out m hm).2.2.2 (by omega), Below.refl _ _⟩
  have h2i : ¬ (13 : Int) < (s.size : Int) := by omega
  go_enter Tryz.func113, Tryz.ntmps113
  go_wp2
  go_loopw [4, 5] (fun n i wr => ∃ k : Nat, k ≤ s.size ∧ i = .int .i64 k ∧ n = .int .i64 ((valL 0 (s.data.toList.take k) : Nat) : Int) ∧ Hid (valL 0 (s.data.toList.take k) < 10 ^ k) ∧ wr = w) (fun _ i _ => s.size - (intOf i).toNat)
  case atStart => exact ⟨0, by omega, rfl, rfl, Lib.hid (by simp [valL]), rfl⟩
  case round =>
    obtain ⟨k, hk, rfl, rfl, HV, rfl⟩ := hrel
    by_cases hlt : k < s.size
    · have hLk : k < s.data.toList.length := by rw [HL.out]; exact hlt
      have HGE := Lib.hid (show s.data.toList[k] = s[k] from rfl)
      have HTk := Lib.hid (valL_take hLk)
      have hv : valL 0 (s.data.toList.take k) < 10000000000000 := pow_le HV.out (by omega : k ≤ 13)
      generalize hvv : valL 0 (s.data.toList.take k) = v at HV HTk hv ⊢
      clear hvv
      by_cases hd1 : s[k].toNat < 48
      · have hd1i : (s[k].toNat : Int) < 48 := by omega
        have HNO := Lib.hid (fun m (hm : DecIs s m) => (show False from by
          have := (HP.out m hm).1 s.data.toList[k] (List.getElem_mem hLk)
          rw [HGE.out] at this; omega))
        go_wp2
        go_ret2
        exact ⟨0, false, rfl, ⟨by omega, by omega⟩, fun h => (by cases h), fun m hm => (HNO.out m hm).elim, Below.refl _ _⟩
      by_cases hd2 : 57 < s[k].toNat
      · have hd1i : ¬ (s[k].toNat : Int) < 48 := by omega
        have hd2i : (57 : Int) < (s[k].toNat : Int) := by omega
        have HNO := Lib.hid (fun m (hm : DecIs s m) => (show False from by
          have := (HP.out m hm).1 s.data.toList[k] (List.getElem_mem hLk)
          rw [HGE.out] at this; omega))
        go_wp2
        go_ret2
        exact ⟨0, false, rfl, ⟨by omega, by omega⟩, fun h => (by cases h), fun m hm => (HNO.out m hm).elim, Below.refl _ _⟩
      have hd1i : ¬ (s[k].toNat : Int) < 48 := by omega
      have hd2i : ¬ (57 : Int) < (s[k].toNat : Int) := by omega
      have HN := Lib.hid (show valL 0 (s.data.toList.take (k + 1)) < 10 ^ (k + 1) ∧ ((valL 0 (s.data.toList.take (k + 1)) : Nat) : Int) = 10 * (v : Int) + ((s[k].toNat : Int) - 48) from by
        rw [HTk.out, HGE.out]
        exact ⟨digitR_lt HV.out (by omega), by omega⟩)
      go_wp2
      go_roundw
      case rel => exact ⟨k + 1, by omega, by go_num, by rw [HN.out.2], Lib.hid HN.out.1, trivial⟩
      case measure => simp [intOf]; omega
    · have hkn : k = s.size := by omega
      subst hkn
      have HA := Lib.hid (show s.data.toList.take s.size = s.data.toList from List.take_of_length_le (by rw [HL.out]; exact Nat.le_refl _))
      rw [HA.out] at HV ⊢
      have hv : valL 0 s.data.toList < 10000000000000 := pow_le HV.out (by omega : s.size ≤ 13)
      generalize hvv : valL 0 s.data.toList = v at HV HP hv ⊢
      clear hvv
      change Hid _ at HP
      go_wp2_with fail
      refine (spec_l01Dec_int (v : Int) (by omega) (by omega) _).mono ?_
      rintro e w1 ⟨rfl, hb⟩
      by_cases hq : S (decL (v : Int)) = s
      · have hql := str_eq hq
        have HQT := Lib.hid hq; clear hq
        go_wp2
        go_ret2
        exact ⟨v, true, rfl, ⟨by omega, by omega⟩, fun _ => HQT.out.symm, fun m hm => ⟨(HP.out m hm).2.1, rfl⟩, hb⟩
      · have hql := str_ne hq
        have HQ := Lib.hid hq; clear hq
        go_wp2
        go_ret2
        exact ⟨v, false, rfl, ⟨by omega, by omega⟩, fun h => (by cases h), fun m hm => absurd (by rw [(HP.out m hm).2.1]; exact hm.2.symm) HQ.out, hb⟩

theorem decIs_first {s : ByteArray} {m : Int} (h : DecIs s m) (h0 : 0 < s.size) : s[0].toNat ≠ 45 := by
  have hd := (decIs_val h).1
  have := hd s[0] (by
    have : s[0] = s.data.toList[0]'h0 := rfl
    rw [this]; exact List.getElem_mem _)
  omega
set_option maxHeartbeats 4000000 in
theorem spec_l01Signed_any (s : ByteArray) (w : World) :
    Calls Tryz.prog 81 #[.string s] w fun e w' => NumE s w w' e := by
  by_cases h0 : s.size = 0
  · have h0i : ¬ (0 : Int) < (s.size : Int) := by omega
    go_enter Tryz.func81, Tryz.ntmps81
    go_wp2_with fail
    refine (spec_l01Digits_full s _).mono ?_
    rintro e w1 ⟨n, b, rfl, ⟨n0, n1⟩, hb1, hb2, hb⟩
    have H1 := Lib.hid hb1; have H2 := Lib.hid hb2; clear hb1 hb2
    go_wp2
    go_ret2
    exact ⟨n, b, rfl, by unfold In64; omega, fun h _ => H1.out h, H2.out, hb⟩
  have h0p : 0 < s.size := by omega
  have h0i : (0 : Int) < (s.size : Int) := by omega
  have HF := Lib.hid (fun m (hm : DecIs s m) => decIs_first hm h0p)
  by_cases h45 : s[0].toNat = 45
  · have h45i : ((s[0].toNat : Int) == 45) = true := by simp [h45]
    have HNO := Lib.hid (fun m (hm : DecIs s m) => HF.out m hm h45)
    clear h45
    go_enter Tryz.func81, Tryz.ntmps81
    go_wp2_with fail
    refine (spec_l01Digits_full (s.extract 1 s.size) _).mono ?_
    rintro e w1 ⟨n, b, rfl, ⟨n0, n1⟩, _, _, hb⟩
    cases b
    · go_wp2
      go_ret2
      exact ⟨-n, false, rfl, by unfold In64; omega, fun h => (by cases h), fun m hm => (HNO.out m hm).elim, hb⟩
    · by_cases hn : 0 < n
      · have hnd : decide (0 < n) = true := by simpa using hn
        go_wp2
        go_ret2
        exact ⟨-n, true, rfl, by unfold In64; omega, fun _ h => absurd h (by omega), fun m hm => (HNO.out m hm).elim, hb⟩
      · have hnd : decide (0 < n) = false := by simpa using hn
        go_wp2
        go_ret2
        exact ⟨-n, false, rfl, by unfold In64; omega, fun h => (by cases h), fun m hm => (HNO.out m hm).elim, hb⟩
  · have h45i : ((s[0].toNat : Int) == 45) = false := by simp; omega
    clear h45
    go_enter Tryz.func81, Tryz.ntmps81
    go_wp2_with fail
    refine (spec_l01Digits_full s _).mono ?_
    rintro e w1 ⟨n, b, rfl, ⟨n0, n1⟩, hb1, hb2, hb⟩
    have H1 := Lib.hid hb1; have H2 := Lib.hid hb2; clear hb1 hb2
    go_wp2
    go_ret2
    exact ⟨n, b, rfl, by unfold In64; omega, fun h _ => H1.out h, H2.out, hb⟩

def NumsW (ws : List (List UInt8)) (w w' : World) (e : Ending) : Prop := ∃ (A : Option Addr) (n c : Nat) (b : Bool) (ns : List Int), e = .returned (.tuple #[.slice A n c, .bool b]) ∧ Res w.heap.size w' 2 1 A n c (intRows ns) ∧
  (b = true → Nums ws ns ws.length) ∧ (b = false → ns = [] ∧ ∀ ms : List Int, (∀ m ∈ ms, 0 ≤ m ∧ m ≤ 9999999999999) → ¬ ws = ms.map decL) ∧ Below w.heap.size w w'
set_option maxHeartbeats 4000000 in
set_option maxRecDepth 100000 in
theorem spec_l01Numbers_any (A0 : Option Addr) (n c0 : Nat) (ws : List (List UInt8)) (w : World) (hl : ws.length = n) (hn : n ≤ 1000000) (hX : Rd w w.heap.size A0 1 (strRows ws)) :
    Calls Tryz.prog 45 #[.slice A0 n c0] w fun e w' => NumsW ws w w' e := by
  obtain ⟨i0, hi0, hj0, hj1, hj2⟩ := info_parts Int64.info
  have HI := Lib.hid (And.intro hi0 (And.intro hj0 (And.intro hj1 hj2))); clear hi0 hj0 hj1 hj2
  have HL := Lib.hid hl; clear hl
  have HX := Lib.hid hX; clear hX
  have HR0 := Lib.hid (show Res w.heap.size (w.alloc (.cells #[] 2)) 2 1 (some ⟨w.heap.size, 0, none⟩) 0 0 (intRows []) from Res.zero w w.heap.size 2 1 (Nat.le_refl _))
  have HW0 := Lib.hid ((Below.refl w.heap.size w).alloc (Nat.le_refl _) (.cells #[] 2))
  go_enter Tryz.func45, Tryz.ntmps45
  go_wp2
  go_loopw [4, 5] (fun o i wr => ∃ (k cap : Nat) (A : Option Addr) (ns : List Int), k ≤ n ∧ i = .int .i64 k ∧ o = .slice A k cap ∧ Hid (Res w.heap.size wr 2 1 A k cap (intRows ns)) ∧ Hid (Nums ws ns k) ∧ Hid (Below w.heap.size w wr)) (fun _ i _ => n - (intOf i).toNat)
  case atStart => exact ⟨0, 0, _, [], by omega, rfl, rfl, HR0, Lib.hid (Nums.nil ws), HW0⟩
  case round =>
    obtain ⟨k, cap, A, ns, hk, rfl, rfl, HR, HNS, HB⟩ := hrel
    clear HR0 HW0
    by_cases hlt : k < n
    · obtain ⟨l, hl⟩ := get_of_lt (xs := ws) (k := k) (by rw [HL.out]; exact hlt)
      have hki : (k : Int) < (n : Int) := by omega
      obtain ⟨ad, rfl, had, _, hcl⟩ := (HX.out.past HB.out).at' (strRows_get hl)
      have cl : wr.cell? (ad.add k) = some (.string (S l)) := by have := hcl 0 _ rfl; rwa [Nat.mul_one, Addr.add_zero'] at this
      obtain ⟨sl, hsl⟩ : ∃ sl, S l = sl := ⟨_, rfl⟩
      rw [hsl] at cl
      have HSL := Lib.hid hsl
      have Hl := Lib.hid hl
      clear hsl hl hcl
      go_wp2_with fail
      refine (spec_l01Signed_any sl wr).mono ?_
      rintro e w2 ⟨x, b, rfl, hx64, hxb, hxf, hb⟩
      have HB2 := Lib.hid (HB.out.trans (hb.mono HB.out.size))
      have HR2 := Lib.hid (HR.out.past hb)
      cases b
      · have HNO := Lib.hid (show ∀ ms : List Int, (∀ m ∈ ms, 0 ≤ m ∧ m ≤ 9999999999999) → ¬ ws = ms.map decL from no_nums Hl.out (fun m hm => (by have := (hxf m (by rw [← HSL.out]; exact hm)).2; cases this)))
        clear hx64 hxb hxf hb
        go_wp2
        go_ret2
        exact ⟨none, 0, 0, false, [], rfl, Res.nil_, fun h => (by cases h), fun _ => ⟨rfl, HNO.out⟩, HB2.out⟩
      · have HN2 := Lib.hid (HNS.out.snoc Hl.out hx64 (fun h0 => by rw [HSL.out]; exact hxb rfl h0) (fun m hm => (hxf m (by rw [← HSL.out]; exact hm)).1))
        clear hx64 hxb hxf hb HR HB
        have hbsz := HB2.out.size
        go_wp2_with (at_builtin; refine wpList_append_row_at _ rfl _ _ _ rfl w.heap.size 2 i0 _ 1 8 Tryz.underlying24 HI.out.1 HI.out.2.1 HI.out.2.2.1 HI.out.2.2.2 rfl (by decide) (by decide) A k cap _ rfl HR2.out [.int .i64 x] _ rfl rfl (by simp [Value.oneCell']) (by omega) hbsz ?_; intro A9 c9 w9 hR9 hb9 _ _)
        rw [← intRows_snoc] at hR9
        have HR9 := Lib.hid hR9
        have HB9 := Lib.hid (HB2.out.trans hb9)
        clear hR9 hb9
        go_wp2
        go_roundw
        case rel => exact ⟨k + 1, c9, A9, ns ++ [x], by omega, by go_num, rfl, HR9, HN2, HB9⟩
        case measure => simp [intOf]; omega
    · have hkn : k = n := by omega
      subst hkn
      go_wp2
      go_ret2
      exact ⟨A, k, cap, true, ns, rfl, HR.out, fun _ => by rw [HL.out]; exact HNS.out, fun h => (by cases h), HB.out⟩
end Go.Proofs.YtkdfdbcpbgganaaGreatDoor
end

/- Life tables: the deaths and the lives at an age: the program's and the reference's contracts. -/
section
namespace Go.Proofs.YtkdfdbcpbgganaaGreatDoor
open Go.RowKit Go.BigFrame

def ageP (first : Int) (xs : List Int) (age : Int) : Int := if tableB first xs = true then (if inR age first 150 = true then 0 else 2) else 1
def deathsP (first : Int) (xs : List Int) (age : Int) : Int × Int := if ageP first xs age = 0 then (lv xs (age - first).toNat - lv xs ((age - first).toNat + 1), 0) else (0, ageP first xs age)
def livesP (first : Int) (xs : List Int) (age : Int) : Int × Int := if ageP first xs age = 0 then (lv xs (age - first).toNat, 0) else (0, ageP first xs age)
theorem ageP_ok {first age : Int} {xs : List Int} (h : ageP first xs age = 0) : tableB first xs = true ∧ first ≤ age ∧ age ≤ 150 := by
  unfold ageP at h
  split at h
  · rename_i h1
    split at h
    · rename_i h2
      exact ⟨h1, inR_true.1 h2⟩
    · cases h
  · cases h

end Go.Proofs.YtkdfdbcpbgganaaGreatDoor
end
