/- Plain facts on ledgers: sums of amounts, months in order. No program in sight. -/
import Derived.Test.YtlbllonpodckgaaGreatDoorNum
import Derived.Test.YtlbllonpodckgaaGreatDoorList
import Derived.Test.YtlbllonpodckgaaGreatDoorStEntry
namespace Go.Proofs.YtlbllonpodckgaaGreatDoor

def entryB (e : Entry) : Bool := inR e.month 0 35999 && (inR e.debit 0 9 && (inR e.credit 0 9 && (e.debit != e.credit && inR e.amount 1 1000000000)))
def monthAt (xs : List Entry) (i : Nat) : Int := ((xs[i]?).map Entry.month).getD 0
def okAt (xs : List Entry) (i : Nat) : Bool := match xs[i]? with
  | none => true
  | some e => entryB e && (i == 0 || decide (monthAt xs (i - 1) ≤ e.month))
def ledgerB (xs : List Entry) : Bool := decide (xs.length ≤ 150) && (List.range xs.length).all (okAt xs)

theorem okAt_yes {xs : List Entry} {k : Nat} {x : Entry} (hx : xs[k]? = some x) (he : entryB x = true) (hm : k = 0 ∨ monthAt xs (k - 1) ≤ x.month) : okAt xs k = true := by
  simp only [okAt, hx, he, Bool.true_and, Bool.or_eq_true, beq_iff_eq, decide_eq_true_eq]; exact hm
theorem okAt_no {xs : List Entry} {k : Nat} {x : Entry} (hx : xs[k]? = some x) (h : entryB x = false ∨ (k ≠ 0 ∧ x.month < monthAt xs (k - 1))) : okAt xs k = false := by
  simp only [okAt, hx]
  rcases h with h | ⟨h1, h2⟩
  · simp [h]
  · simp [h1]; intro _; omega
theorem range_succ_all {p : Nat → Bool} {k : Nat} (h : (List.range k).all p = true) (hp : p k = true) : (List.range (k + 1)).all p = true := by
  rw [List.range_succ]; simp [h, hp]
theorem range_stop {p : Nat → Bool} {k n : Nat} (hk : k < n) (hp : p k = false) : (List.range n).all p = false := by
  rw [List.all_eq_false]; exact ⟨k, by simpa using hk, by simp [hp]⟩
theorem ledgerB_no {xs : List Entry} {k : Nat} (hk : k < xs.length) (hp : okAt xs k = false) : ledgerB xs = false := by
  rw [ledgerB, range_stop hk hp]; simp
theorem monthAt_of {xs : List Entry} {k : Nat} {x : Entry} (hx : xs[k]? = some x) : monthAt xs k = x.month := by simp [monthAt, hx]

/-- what a ledger is -/
theorem ledger_len {xs : List Entry} (h : ledgerB xs = true) : xs.length ≤ 150 := by
  simp only [ledgerB, Bool.and_eq_true, decide_eq_true_eq] at h; exact h.1
theorem ledger_ok {xs : List Entry} (h : ledgerB xs = true) {k : Nat} (hk : k < xs.length) : okAt xs k = true := by
  simp only [ledgerB, Bool.and_eq_true] at h
  exact List.all_eq_true.1 h.2 k (by simpa using hk)
theorem ledger_entry {xs : List Entry} (h : ledgerB xs = true) {x : Entry} (hx : x ∈ xs) : entryB x = true := by
  obtain ⟨k, hk⟩ := List.mem_iff_getElem?.1 hx
  have := ledger_ok h (List.getElem?_eq_some_iff.1 hk).1
  simp only [okAt, hk, Bool.and_eq_true] at this
  exact this.1
theorem ledger_step {xs : List Entry} (h : ledgerB xs = true) {k : Nat} {x y : Entry} (hx : xs[k]? = some x) (hy : xs[k + 1]? = some y) : x.month ≤ y.month := by
  have := ledger_ok h (List.getElem?_eq_some_iff.1 hy).1
  simp only [okAt, hy, Bool.and_eq_true, Nat.add_sub_cancel, monthAt_of hx] at this
  simpa using this.2
theorem ledger_mono {xs : List Entry} (h : ledgerB xs = true) {i : Nat} {x : Entry} (hx : xs[i]? = some x) : ∀ (d : Nat) {y : Entry}, xs[i + d]? = some y → x.month ≤ y.month
  | 0, y, hy => by rw [Nat.add_zero, hx] at hy; injection hy with e; subst e; omega
  | d + 1, y, hy => by
    obtain ⟨z, hz⟩ := get_of_lt (xs := xs) (k := i + d) (by have := (List.getElem?_eq_some_iff.1 hy).1; omega)
    have h1 := ledger_mono h hx d hz
    have h2 := ledger_step h hz (y := y) (by rw [← hy]; rfl)
    omega
theorem entry_facts {x : Entry} (h : entryB x = true) : (0 ≤ x.month ∧ x.month ≤ 35999) ∧ (0 ≤ x.debit ∧ x.debit ≤ 9) ∧ (0 ≤ x.credit ∧ x.credit ≤ 9) ∧ x.debit ≠ x.credit ∧ (1 ≤ x.amount ∧ x.amount ≤ 1000000000) := by
  simp only [entryB, Bool.and_eq_true, inR_true, bne_iff_ne] at h
  exact ⟨h.1, h.2.1, h.2.2.1, h.2.2.2.1, h.2.2.2.2⟩

def dAmt (a f t : Int) (e : Entry) : Int := if inR e.month f t = true ∧ e.debit = a then e.amount else 0
def cAmt (a f t : Int) (e : Entry) : Int := if inR e.month f t = true ∧ e.credit = a then e.amount else 0
def dSum (xs : List Entry) (a f t : Int) : Int := (xs.map (dAmt a f t)).sum
def cSum (xs : List Entry) (a f t : Int) : Int := (xs.map (cAmt a f t)).sum
theorem sum_snoc {α : Type} (g : α → Int) {xs : List α} {k : Nat} {x : α} (hx : xs[k]? = some x) : ((xs.take (k + 1)).map g).sum = ((xs.take k).map g).sum + g x := by
  rw [take_succ_snoc hx]; simp
theorem sum_bound {α : Type} (g : α → Int) (M : Int) : ∀ (l : List α), (∀ x ∈ l, 0 ≤ g x ∧ g x ≤ M) → 0 ≤ (l.map g).sum ∧ (l.map g).sum ≤ l.length * M
  | [], _ => by simp
  | x :: r, h => by
    have h1 := h x (by simp)
    have h2 := sum_bound g M r fun y hy => h y (by simp [hy])
    simp only [List.map_cons, List.sum_cons, List.length_cons]
    have : ((r.length + 1 : Nat) : Int) * M = r.length * M + M := by rw [Int.natCast_add, Int.add_mul]; simp
    omega
theorem dSum_snoc {xs : List Entry} {k : Nat} {x : Entry} (a f t : Int) (hx : xs[k]? = some x) : dSum (xs.take (k + 1)) a f t = dSum (xs.take k) a f t + dAmt a f t x := sum_snoc _ hx
theorem cSum_snoc {xs : List Entry} {k : Nat} {x : Entry} (a f t : Int) (hx : xs[k]? = some x) : cSum (xs.take (k + 1)) a f t = cSum (xs.take k) a f t + cAmt a f t x := sum_snoc _ hx
theorem dSum_bound {xs : List Entry} (a f t : Int) (hv : ∀ x ∈ xs, entryB x = true) (hn : xs.length ≤ 150) : 0 ≤ dSum xs a f t ∧ dSum xs a f t ≤ 150000000000 := by
  have h := sum_bound (dAmt a f t) 1000000000 xs fun x hx => by
    have := (entry_facts (hv x hx)).2.2.2.2
    unfold dAmt; split <;> omega
  unfold dSum; omega
theorem cSum_bound {xs : List Entry} (a f t : Int) (hv : ∀ x ∈ xs, entryB x = true) (hn : xs.length ≤ 150) : 0 ≤ cSum xs a f t ∧ cSum xs a f t ≤ 150000000000 := by
  have h := sum_bound (cAmt a f t) 1000000000 xs fun x hx => by
    have := (entry_facts (hv x hx)).2.2.2.2
    unfold cAmt; split <;> omega
  unfold cSum; omega
theorem take_valid {xs : List Entry} (hv : ∀ x ∈ xs, entryB x = true) (k : Nat) : ∀ x ∈ xs.take k, entryB x = true := fun x hx => hv x (List.mem_of_mem_take hx)
/-- the entries from place k on are all later: they add nothing -/
theorem sum_late {xs : List Entry} (g : Entry → Int) {k : Nat} (h : ∀ (i : Nat) (x : Entry), k ≤ i → xs[i]? = some x → g x = 0) : (xs.map g).sum = ((xs.take k).map g).sum := by
  conv => lhs; rw [← List.take_append_drop k xs]
  rw [List.map_append, List.sum_append]
  have : ∀ l : List Entry, (∀ x ∈ l, g x = 0) → (l.map g).sum = 0 := by
    intro l; induction l with
    | nil => simp
    | cons x r ih => intro hl; simp [hl x (by simp), ih fun y hy => hl y (by simp [hy])]
  have h0 := this (xs.drop k) (by
    intro x hx
    obtain ⟨i, hi⟩ := List.mem_iff_getElem?.1 hx
    rw [List.getElem?_drop] at hi
    exact h (k + i) x (by omega) hi)
  omega

def balP (xs : List Entry) (a u : Int) : Int := dSum xs a 0 u - cSum xs a 0 u
theorem bal_late {xs : List Entry} (h : ledgerB xs = true) {k : Nat} {x : Entry} (hx : xs[k]? = some x) {a u : Int} (hu : u < x.month) : balP xs a u = balP (xs.take k) a u := by
  have late : ∀ (i : Nat) (y : Entry), k ≤ i → xs[i]? = some y → u < y.month := fun i y hi hy => by
    have := ledger_mono h hx (i - k) (y := y) (by rw [show k + (i - k) = i by omega]; exact hy)
    omega
  unfold balP dSum cSum
  rw [sum_late (dAmt a 0 u) fun i y hi hy => by
      have := late i y hi hy
      unfold dAmt; rw [if_neg (by rw [inR_true]; omega)], sum_late (cAmt a 0 u) fun i y hi hy => by
      have := late i y hi hy
      unfold cAmt; rw [if_neg (by rw [inR_true]; omega)]]
/-- AccountBalance, TurnoverOf, TrialBalance: result and code -/
def accountP (xs : List Entry) (a u : Int) : Int × Int :=
  if ledgerB xs = true then (if inR a 0 9 = true ∧ inR u 0 35999 = true then (balP xs a u, 0) else (0, 2)) else (0, 1)
def turnoverP (xs : List Entry) (a f t : Int) : Int × Int × Int :=
  if ledgerB xs = true then (if inR a 0 9 = true ∧ (inR f 0 35999 = true ∧ inR t 0 35999 = true) then (dSum xs a f (t - 1), cSum xs a f (t - 1), 0) else (0, 0, 2)) else (0, 0, 1)
def trialP (xs : List Entry) : List Int × Int :=
  if ledgerB xs = true then ((List.range 10).map (fun a : Nat => balP xs (a : Int) 36000), 0) else ([], 1)
end Go.Proofs.YtlbllonpodckgaaGreatDoor
