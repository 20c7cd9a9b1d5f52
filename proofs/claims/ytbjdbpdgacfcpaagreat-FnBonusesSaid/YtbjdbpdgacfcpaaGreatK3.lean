/- Parts of a proof, one after another: PolP, StScenario, ChgP, List, Life, Life2. No condition. -/
import Derived.Test.YtbjdbpdgacfcpaaGreatK0
import Derived.Test.YtbjdbpdgacfcpaaGreatK1
import Derived.Test.YtbjdbpdgacfcpaaGreatK2
/- Policies, their premiums and reserves: plain functions and their laws. No program. -/
section
namespace Go.Proofs.YtbjdbpdgacfcpaaGreat
open Go.RowKit Go.BigFrame

structure Bas where
  first : Int
  lives : List Int
  rate : Int
def basisB (b : Bas) : Bool := tableB b.first b.lives && inR b.rate 0 200
def Bas.ix (b : Bas) (age : Int) : Nat := (age - b.first).toNat
def Bas.d (b : Bas) (age : Int) : Int := dC b.lives b.rate (b.ix age)
def Bas.top (b : Bas) (kind age n : Int) : Int := topF b.lives b.rate kind (b.ix age) n.toNat
def Bas.base (b : Bas) (kind age n : Int) : Int := baseF b.lives b.rate kind (b.ix age) n.toNat
def Bas.last (b : Bas) : Int := b.first + (b.lives.length : Int) - 1
/-- the arguments of an assurance, but for the table -/
def assurB (b : Bas) (kind age n sum : Int) : Bool :=
  inR kind 0 3 && (inR b.rate 0 200 && (inR age b.first 150 && (inR sum 1 100000000 && (inR n 0 120 && (decide (age + n ≤ 150) && (decide (n = 0) == decide (kind = 0)))))))
def bandB (b : Bas) (age n : Int) : Bool := (List.range (max 1 n).toNat).all fun i => decide (b.d (age + i) ≠ 0)
def polB (b : Bas) (p : Policy) : Bool := basisB b && (assurB b p.kind p.age p.years p.sum && (inR p.load 0 1000 && bandB b p.age p.years))
def durP (b : Bas) (p : Policy) : Int := if p.kind = 0 then b.last - p.age else p.years
def resCode (b : Bas) (p : Policy) (k : Int) : Int := if polB b p = true then (if inR k 0 (durP b p - 1) = true then (if b.d (p.age + k) = 0 then 5 else 0) else 2) else 1
/-- a * b / c rounded up -/
def upP (a b c : Int) : Int := a * b / c + (if 0 < a * b % c then 1 else 0)
def netP (b : Bas) (p : Policy) : Int := upP p.sum (b.top p.kind p.age p.years) (b.base p.kind p.age p.years)
def officeP (b : Bas) (p : Policy) : Int := netP b p + ceilDiv (netP b p * p.load) 1000
def leftP (p : Policy) (k : Int) : Int := if p.kind = 0 then 0 else p.years - k
def fwdP (s t n v d : Int) : Int × Int := ((s * t - n * v) / d, (s * t - n * v) % d)
def roundP (x : Int × Int) : Int := max 0 (x.1 + (if 0 < x.2 then 1 else 0))
def partT (b : Bas) (p : Policy) (k : Int) : Int := b.top p.kind (p.age + k) (leftP p k)
def partB (b : Bas) (p : Policy) (k : Int) : Int := b.base p.kind (p.age + k) (leftP p k)
def partD (b : Bas) (p : Policy) (k : Int) : Int := b.d (p.age + k)
def resAt (b : Bas) (p : Policy) (k : Int) : Int := roundP (fwdP p.sum (partT b p k) (netP b p) (partB b p k) (partD b p k))

structure BasOk (b : Bas) : Prop where
  tab : TabOk b.first b.lives
  rate0 : 0 ≤ b.rate
  rate1 : b.rate ≤ 200
theorem basis_ok {b : Bas} (h : basisB b = true) : BasOk b := by
  simp only [basisB, Bool.and_eq_true, inR_true] at h
  exact ⟨table_ok h.1, h.2.1, h.2.2⟩
structure PolOk (b : Bas) (p : Policy) : Prop extends BasOk b where
  kind0 : 0 ≤ p.kind
  kind1 : p.kind ≤ 3
  age0 : b.first ≤ p.age
  age1 : p.age ≤ 150
  sum0 : 1 ≤ p.sum
  sum1 : p.sum ≤ 100000000
  yrs0 : 0 ≤ p.years
  yrs1 : p.years ≤ 120
  end1 : p.age + p.years ≤ 150
  zero : p.years = 0 ↔ p.kind = 0
  load0 : 0 ≤ p.load
  load1 : p.load ≤ 1000
  band : ∀ i : Nat, (i : Int) < max 1 p.years → b.d (p.age + i) ≠ 0
theorem pol_ok {b : Bas} {p : Policy} (h : polB b p = true) : PolOk b p := by
  simp only [polB, assurB, bandB, Bool.and_eq_true, inR_true, decide_eq_true_eq, List.all_eq_true, List.mem_range, beq_iff_eq, decide_eq_decide] at h
  obtain ⟨h1, ⟨⟨k0, k1⟩, _, ⟨a0, a1⟩, ⟨s0, s1⟩, ⟨y0, y1⟩, e1, z⟩, ⟨l0, l1⟩, hb⟩ := h
  exact { toBasOk := basis_ok h1, kind0 := k0, kind1 := k1, age0 := a0, age1 := a1, sum0 := s0, sum1 := s1, yrs0 := y0, yrs1 := y1, end1 := e1, zero := z, load0 := l0, load1 := l1, band := fun i hi => hb i (by omega) }
section
variable {b : Bas} (B : BasOk b)
include B
theorem d_bound (age : Int) : 0 ≤ b.d age ∧ b.d age ≤ 1000000000000000 := dC_bound B.tab B.rate0 _
theorem top_bound (kind age n : Int) : 0 ≤ b.top kind age n ∧ b.top kind age n ≤ b.d age := topF_bound B.tab B.rate0 _ _ _
theorem base_bound (kind age n : Int) (hn : n ≤ 120) : 0 ≤ b.base kind age n ∧ b.base kind age n ≤ 120 * b.d age := baseF_bound B.tab B.rate0 _ _ _ (by omega)
theorem base_pos (kind age n : Int) (h : kind = 0 ∨ 1 ≤ n) : b.d age ≤ b.base kind age n := baseF_pos B.tab B.rate0 _ _ _ (by rcases h with h | h; exact .inl h; exact .inr (by omega))
end
theorem mul_div_le {a x c m : Int} (ha : 0 ≤ a) (hx : 0 ≤ x) (hc : 1 ≤ c) (h : x ≤ m * c) : 0 ≤ a * x / c ∧ a * x / c ≤ a * m := by
  refine ⟨Int.ediv_nonneg (Int.mul_nonneg ha hx) (by omega), ?_⟩
  have h1 : a * x ≤ a * (m * c) := Int.mul_le_mul_of_nonneg_left h ha
  have h2 : a * x / c ≤ a * (m * c) / c := Int.ediv_le_ediv (by omega) h1
  rw [← Int.mul_assoc, Int.mul_ediv_cancel _ (by omega)] at h2
  exact h2
theorem up_le {a x c : Int} (ha : 0 ≤ a) (hx : 0 ≤ x) (hc : 1 ≤ c) (h : x ≤ c) : 0 ≤ upP a x c ∧ upP a x c ≤ a := by
  have h1 := mul_div_le (m := 1) ha hx hc (by omega)
  rw [Int.mul_one] at h1
  unfold upP
  split
  · rename_i hr
    have h2 := Int.mul_ediv_add_emod (a * x) c
    have h3 : a * x ≤ a * c := Int.mul_le_mul_of_nonneg_left h ha
    have h4 : a * x / c < a := by
      rcases Int.lt_or_le (a * x / c) a with h5 | h5
      · exact h5
      · have h6 : c * a ≤ c * (a * x / c) := Int.mul_le_mul_of_nonneg_left h5 (by omega)
        rw [Int.mul_comm c a] at h6
        omega
    omega
  · omega
theorem ceil_bound {x : Int} (h : 0 ≤ x) : 0 ≤ ceilDiv x 1000 ∧ ceilDiv x 1000 ≤ x := by unfold ceilDiv; omega
section
variable {b : Bas} {p : Policy} (P : PolOk b p)
include P
theorem d_age : 1 ≤ b.d p.age := by
  have h1 := P.band 0 (by omega)
  have h2 := d_bound P.toBasOk p.age
  simp only [Int.natCast_zero, Int.add_zero] at h1
  omega
theorem kind_or : p.kind = 0 ∨ 1 ≤ p.years := by
  have := P.zero; have := P.yrs0
  by_cases h : p.kind = 0
  · exact .inl h
  · exact .inr (by omega)
theorem net_base : 1 ≤ b.base p.kind p.age p.years := by
  have := base_pos P.toBasOk p.kind p.age p.years (kind_or P)
  have := d_age P
  omega
theorem net_bound : 0 ≤ netP b p ∧ netP b p ≤ 100000000 := by
  have h1 := top_bound P.toBasOk p.kind p.age p.years
  have h2 := base_pos P.toBasOk p.kind p.age p.years (kind_or P)
  have h3 := d_age P
  have h4 := up_le (a := p.sum) (x := b.top p.kind p.age p.years) (c := b.base p.kind p.age p.years) (by have := P.sum0; omega) h1.1 (by omega) (by omega)
  have := P.sum1
  unfold netP
  omega
theorem office_bound : 0 ≤ netP b p * p.load ∧ netP b p * p.load ≤ 100000000000 ∧ netP b p ≤ officeP b p ∧ officeP b p ≤ 200000000 := by
  have h1 := net_bound P
  have h2 : netP b p * p.load ≤ 100000000 * 1000 := Int.mul_le_mul h1.2 P.load1 P.load0 (by omega)
  have h3 := Int.mul_nonneg h1.1 P.load0
  unfold officeP ceilDiv
  omega
theorem dur_bound : durP b p ≤ 150 := by
  have := P.tab.top; have := P.age0; have := P.tab.first0; have := P.yrs1
  unfold durP Bas.last
  split <;> omega
theorem left_bound {k : Int} (hk : 0 ≤ k) : leftP p k ≤ 120 := by
  have := P.yrs1
  unfold leftP
  split <;> omega
end
/-- a year of a policy in which a reserve can be told -/
structure YearOk (b : Bas) (p : Policy) (k : Int) : Prop extends PolOk b p where
  k0 : 0 ≤ k
  k1 : k ≤ durP b p - 1
  d1 : 1 ≤ b.d (p.age + k)
theorem year_ok {b : Bas} {p : Policy} {k : Int} (h : resCode b p k = 0) : YearOk b p k := by
  unfold resCode at h
  by_cases h1 : polB b p = true
  · rw [if_pos h1] at h
    by_cases h2 : inR k 0 (durP b p - 1) = true
    · rw [if_pos h2] at h
      by_cases h3 : b.d (p.age + k) = 0
      · rw [if_pos h3] at h; omega
      · have h4 := inR_true.1 h2
        have h5 := d_bound (pol_ok h1).toBasOk (p.age + k)
        exact { toPolOk := pol_ok h1, k0 := h4.1, k1 := h4.2, d1 := by omega }
    · rw [if_neg h2] at h; omega
  · rw [if_neg h1] at h; omega
/-- the parts of a reserve, whatever the basis: sizes that fit -/
structure PartOk (s t n v d : Int) : Prop where
  s0 : 0 ≤ s
  s1 : s ≤ 100000000
  n0 : 0 ≤ n
  n1 : n ≤ 100000000
  t0 : 0 ≤ t
  t1 : t ≤ d
  v0 : 0 ≤ v
  v1 : v ≤ 120 * d
  d0 : 1 ≤ d
  d1 : d ≤ 1000000000000000
theorem part_ok {b : Bas} {p : Policy} {k n : Int} (Y : YearOk b p k) (hn : 0 ≤ n ∧ n ≤ 100000000) : PartOk p.sum (partT b p k) n (partB b p k) (partD b p k) := by
  have h1 := top_bound Y.toBasOk p.kind (p.age + k) (leftP p k)
  have h2 := base_bound Y.toBasOk p.kind (p.age + k) (leftP p k) (left_bound Y.toPolOk Y.k0)
  have h3 := d_bound Y.toBasOk (p.age + k)
  exact { s0 := by have := Y.sum0; omega, s1 := Y.sum1, n0 := hn.1, n1 := hn.2, t0 := h1.1, t1 := h1.2, v0 := h2.1, v1 := h2.2, d0 := Y.d1, d1 := h3.2 }
section
variable {s t n v d : Int} (K : PartOk s t n v d)
include K
theorem part_quo : (0 ≤ s * t / d ∧ s * t / d ≤ 100000000) ∧ (0 ≤ n * v / d ∧ n * v / d ≤ 12000000000) := by
  have h1 := mul_div_le (m := 1) K.s0 K.t0 K.d0 (by have := K.t1; omega)
  have h2 := mul_div_le (m := 120) K.n0 K.v0 K.d0 K.v1
  have := K.s1; have := K.n1
  omega
theorem part_rest : (0 ≤ s * t % d ∧ s * t % d < d) ∧ (0 ≤ n * v % d ∧ n * v % d < d) := by
  have h0 := K.d0
  exact ⟨⟨Int.emod_nonneg _ (by omega), Int.emod_lt_of_pos _ (by omega)⟩, ⟨Int.emod_nonneg _ (by omega), Int.emod_lt_of_pos _ (by omega)⟩⟩
/-- the program's way to the forward reserve -/
theorem fwd_low (h : s * t % d < n * v % d) : fwdP s t n v d = (s * t / d - n * v / d - 1, s * t % d - n * v % d + d) := by
  have h1 := Int.mul_ediv_add_emod (s * t) d
  have h2 := Int.mul_ediv_add_emod (n * v) d
  have h3 := part_rest K
  have e : s * t - n * v = (s * t % d - n * v % d + d) + d * (s * t / d - n * v / d - 1) := by rw [Int.mul_sub, Int.mul_sub]; omega
  unfold fwdP
  have h4 : s * t % d - n * v % d + d < d := by omega
  have h5 : 0 ≤ s * t % d - n * v % d + d := by omega
  rw [e, Int.add_mul_ediv_left _ _ (by have := K.d0; omega), Int.ediv_eq_zero_of_lt h5 h4, Int.add_mul_emod_self_left, Int.emod_eq_of_lt h5 h4, Int.zero_add]
theorem fwd_high (h : ¬ s * t % d < n * v % d) : fwdP s t n v d = (s * t / d - n * v / d, s * t % d - n * v % d) := by
  have h1 := Int.mul_ediv_add_emod (s * t) d
  have h2 := Int.mul_ediv_add_emod (n * v) d
  have h3 := part_rest K
  have e : s * t - n * v = (s * t % d - n * v % d) + d * (s * t / d - n * v / d) := by rw [Int.mul_sub]; omega
  unfold fwdP
  have h4 : s * t % d - n * v % d < d := by omega
  have h5 : 0 ≤ s * t % d - n * v % d := by omega
  rw [e, Int.add_mul_ediv_left _ _ (by have := K.d0; omega), Int.ediv_eq_zero_of_lt h5 h4, Int.add_mul_emod_self_left, Int.emod_eq_of_lt h5 h4, Int.zero_add]
theorem fwd_bound : (-12000000001 ≤ (fwdP s t n v d).1 ∧ (fwdP s t n v d).1 ≤ 100000000) ∧ (0 ≤ (fwdP s t n v d).2 ∧ (fwdP s t n v d).2 < d) := by
  have h1 := part_quo K
  have h2 := part_rest K
  have h0 := K.d0
  by_cases h : s * t % d < n * v % d
  · rw [fwd_low K h]; simp only; omega
  · rw [fwd_high K h]; simp only; omega
theorem round_bound : 0 ≤ roundP (fwdP s t n v d) ∧ roundP (fwdP s t n v d) ≤ 100000001 := by
  have h := fwd_bound K
  unfold roundP
  split <;> omega
end
theorem res_bound {b : Bas} {p : Policy} {k : Int} (Y : YearOk b p k) : 0 ≤ resAt b p k ∧ resAt b p k ≤ 100000001 := round_bound (part_ok Y (net_bound Y.toPolOk))
end Go.Proofs.YtbjdbpdgacfcpaaGreat
end

/- The helper functions of the laws for Scenario: a copy, a comparison, marks. Each contract holds for every argument of the stated shape. -/
section
namespace Go.Proofs.YtbjdbpdgacfcpaaGreat
open Go.RowKit Go.Deep Go.BigFrame

structure Scenario where
  rate : Int
  death : Int
def Scenario.row (r : Scenario) : List Value := [.int .i64 r.rate, .int .i64 r.death]
def scenarioRows (xs : List Scenario) : List (List Value) := xs.map Scenario.row
theorem scenarioRows_get {xs : List Scenario} {k : Nat} {x : Scenario} (h : xs[k]? = some x) : (scenarioRows xs)[k]? = some x.row := by simp [scenarioRows, h]
theorem scenarioRows_length (xs : List Scenario) : (scenarioRows xs).length = xs.length := by simp [scenarioRows]
theorem scenarioRows_all (xs : List Scenario) : ∀ r ∈ scenarioRows xs, r.length = 2 := by
  intro r hr; obtain ⟨x, _, rfl⟩ := List.mem_map.1 hr; rfl
theorem Scenario.oneCell (x : Scenario) : ∀ v ∈ x.row, v.oneCell' = true := by simp [Scenario.row, Value.oneCell']
theorem Scenario.info : (Tryz.prog.info? 31).map (fun i => (i.zero, i.size, i.bytes)) = some (some (.agg #[.int .i64 0, .int .i64 0]), 2, 16) := by kernel_rfl
theorem Scenario.size : (Tryz.prog.info? 31).map (·.size) = some 2 := by kernel_rfl

theorem Scenario.cells {x : Scenario} {w : World} {p : Addr} (hc : ∀ (j : Nat) (v : Value), x.row[j]? = some v → w.cell? (p.add j) = some v) : w.cell? p = some (.int .i64 x.rate) ∧ w.cell? ⟨p.block, p.off + 1, none⟩ = some (.int .i64 x.death) := by
  refine ⟨by have := hc 0 _ rfl; rwa [Addr.add_zero'] at this, hc 1 _ rfl⟩
def Scenario.fits (x : Scenario) : Prop := In64 x.rate ∧ In64 x.death
theorem Scenario.of_nums : ∀ (rows : List (List Int)), (∀ r ∈ rows, r.length = 2 ∧ ∀ z ∈ r, In64 z) → ∃ xs : List Scenario, xs.length = rows.length ∧ scenarioRows xs = numRows rows ∧ ∀ x ∈ xs, x.fits
  | [], _ => ⟨[], rfl, rfl, by simp⟩
  | q :: rest, h => by
    obtain ⟨xs, hl, hr, hf⟩ := Scenario.of_nums rest fun r hr => h r (by simp [hr])
    obtain ⟨hq, hz⟩ := h q (by simp)
    match q, hq with
    | [z0, z1], _ =>
      refine ⟨⟨z0, z1⟩ :: xs, by simp [hl], by rw [scenarioRows, List.map_cons, numRows, List.map_cons, ← numRows, ← hr]; rfl, fun x hx => ?_⟩
      rcases List.mem_cons.1 hx with rfl | hx
      · exact ⟨hz z0 (by simp), hz z1 (by simp)⟩
      · exact hf x hx
theorem Scenario.of_num {zs : List Int} (hl : zs.length = 2) (hz : ∀ z ∈ zs, In64 z) : ∃ x : Scenario, (zs.map (Value.int .i64)).toArray = x.row.toArray ∧ x.fits := by
  match zs, hl with
  | [z0, z1], _ => exact ⟨⟨z0, z1⟩, rfl, hz z0 (by simp), hz z1 (by simp)⟩









end Go.Proofs.YtbjdbpdgacfcpaaGreat
end

/- Life tables changed by a scenario: plain functions and their laws. No program. -/
section
namespace Go.Proofs.YtbjdbpdgacfcpaaGreat
open Go.RowKit Go.BigFrame

/-- the deaths among l lives that were left at place k -/
def chgDead (xs : List Int) (dt : Int) (k : Nat) (l : Int) : Int :=
  if k + 2 < xs.length then min l (ceilDiv (l * (lv xs k - lv xs (k + 1)) * (1000 + dt)) (1000 * lv xs k)) else l
def chgAt (xs : List Int) (dt : Int) : Nat → Int
  | 0 => lv xs 0
  | k + 1 => chgAt xs dt k - chgDead xs dt k (chgAt xs dt k)
def chgLen (xs : List Int) (dt : Int) : Nat := ((List.range xs.length).takeWhile fun k => decide (0 < chgAt xs dt k)).length
def chgL (xs : List Int) (dt : Int) : List Int := (List.range (chgLen xs dt + 1)).map (chgAt xs dt)
theorem takeWhile_len {p : Nat → Bool} {n k : Nat} (hk : k < n) (h : ∀ j, j < k → p j = true) (hp : p k = false) : ((List.range n).takeWhile p).length = k := by
  obtain ⟨m, rfl⟩ : ∃ m, n = k + (m + 1) := ⟨n - k - 1, by omega⟩
  rw [List.range_add, List.takeWhile_append_of_pos (fun j hj => h j (by simpa using hj)), List.range_succ_eq_map]
  simp [hp]
theorem up_ceil {a b c : Int} (hc : 1 ≤ c) : upP a b c = ceilDiv (a * b) c := by
  unfold upP ceilDiv
  generalize a * b = x
  have h1 := Int.mul_ediv_add_emod x c
  have h2 := Int.emod_nonneg x (show c ≠ 0 by omega)
  have h3 := Int.emod_lt_of_pos x (show 0 < c by omega)
  by_cases h : 0 < x % c
  · rw [if_pos h]
    have e : -x = (c - x % c) + c * (-(x / c) - 1) := by rw [Int.mul_sub, Int.mul_neg]; omega
    have h4 : (c - x % c) / c = 0 := Int.ediv_eq_zero_of_lt (by omega) (by omega)
    have h5 : c ≠ 0 := by omega
    rw [e, Int.add_mul_ediv_left _ _ h5, h4]
    omega
  · rw [if_neg h]
    have e : -x = 0 + c * (-(x / c)) := by rw [Int.mul_neg]; omega
    have h5 : c ≠ 0 := by omega
    rw [e, Int.add_mul_ediv_left _ _ h5]
    simp
section
variable {first : Int} {xs : List Int} {dt : Int} (T : TabOk first xs) (hd : -500 ≤ dt ∧ dt ≤ 500)
include T hd
/-- the parts of one step, while lives are left -/
theorem chg_parts {k : Nat} {l : Int} (hk : k + 1 < xs.length) (h0 : 0 ≤ l) (h1 : l ≤ 1000000) : (0 ≤ lv xs k - lv xs (k + 1) ∧ lv xs k - lv xs (k + 1) ≤ 1000000) ∧ (0 ≤ l * (lv xs k - lv xs (k + 1)) ∧ l * (lv xs k - lv xs (k + 1)) ≤ 1000000000000) ∧
    (0 ≤ (lv xs k - lv xs (k + 1)) * (1000 + dt) ∧ (lv xs k - lv xs (k + 1)) * (1000 + dt) ≤ 1500000000) ∧ (1000 ≤ 1000 * lv xs k ∧ 1000 * lv xs k ≤ 1000000000) ∧
    0 ≤ l * (lv xs k - lv xs (k + 1)) * (1000 + dt) ∧ l * (lv xs k - lv xs (k + 1)) * (1000 + dt) ≤ 1500000000000000 := by
  have h2 := T.anti k
  have h3 := T.nonneg k
  have h4 := T.most k
  have h5 := T.nonneg (k + 1)
  have h6 := T.pos k (by omega)
  have h7 : 0 ≤ (lv xs k - lv xs (k + 1)) * (1000 + dt) := Int.mul_nonneg (by omega) (by omega)
  have h8 : (lv xs k - lv xs (k + 1)) * (1000 + dt) ≤ 1000000 * 1500 := Int.mul_le_mul (by omega) (by omega) (by omega) (by omega)
  have h9 : l * (lv xs k - lv xs (k + 1)) ≤ 1000000 * 1000000 := Int.mul_le_mul (by omega) (by omega) (by omega) (by omega)
  have h10 : 0 ≤ l * (lv xs k - lv xs (k + 1)) := Int.mul_nonneg h0 (by omega)
  have h11 : l * (lv xs k - lv xs (k + 1)) * (1000 + dt) ≤ 1000000000000 * 1500 := Int.mul_le_mul (by omega) (by omega) (by omega) (by omega)
  have h12 := Int.mul_nonneg h10 (show 0 ≤ 1000 + dt by omega)
  omega
theorem chg_dead {k : Nat} {l : Int} (h0 : 0 ≤ l) (h1 : l ≤ 1000000) : 0 ≤ chgDead xs dt k l ∧ chgDead xs dt k l ≤ l := by
  unfold chgDead
  split
  · rename_i hk
    have h2 := chg_parts T hd (show k + 1 < xs.length by omega) h0 h1
    generalize l * (lv xs k - lv xs (k + 1)) * (1000 + dt) = x at *
    generalize 1000 * lv xs k = y at *
    have : 0 ≤ ceilDiv x y := by
      unfold ceilDiv
      have h3 := Int.mul_ediv_add_emod (-x) y
      have h4 := Int.emod_lt_of_pos (-x) (show 0 < y by omega)
      rcases Int.lt_or_le 0 ((-x) / y) with h5 | h5
      · have h6 : y * 1 ≤ y * ((-x) / y) := Int.mul_le_mul_of_nonneg_left (by omega) (by omega)
        have h7 := Int.emod_nonneg (-x) (show y ≠ 0 by omega)
        omega
      · omega
    omega
  · omega
theorem chg_bound : ∀ k : Nat, 0 ≤ chgAt xs dt k ∧ chgAt xs dt k ≤ 1000000
  | 0 => by have := T.nonneg 0; have := T.most 0; unfold chgAt; omega
  | k + 1 => by
    have h := chg_bound k
    have := chg_dead T hd (k := k) h.1 h.2
    unfold chgAt; omega
theorem chg_anti (k : Nat) : chgAt xs dt (k + 1) ≤ chgAt xs dt k := by
  have h := chg_bound T hd k
  have := chg_dead T hd (k := k) h.1 h.2
  rw [chgAt]; omega
omit T hd in
theorem chg_last {k : Nat} (hk : xs.length ≤ k + 2) : chgAt xs dt (k + 1) = 0 := by
  rw [chgAt, chgDead, if_neg (by omega)]; omega
end
theorem chg_len {xs : List Int} {dt : Int} {k : Nat} (hk : k < xs.length) (h : ∀ j, j < k → 0 < chgAt xs dt j) (hp : chgAt xs dt k = 0) : chgLen xs dt = k :=
  takeWhile_len hk (fun j hj => by simpa using h j hj) (by simp [hp])
theorem chg_low {xs : List Int} {dt : Int} {k : Nat} (h : 0 < chgAt xs dt (k + 1)) : k + 2 < xs.length := by
  rcases Nat.lt_or_ge (k + 2) xs.length with h1 | h1
  · exact h1
  · rw [chg_last h1] at h; omega
theorem chgLen_le {xs : List Int} {dt : Int} : chgLen xs dt ≤ xs.length := by
  unfold chgLen
  have h1 := (List.takeWhile_prefix (fun k => decide (0 < chgAt xs dt k)) (l := List.range xs.length)).length_le
  simpa using h1
theorem chgL_length (xs : List Int) (dt : Int) : (chgL xs dt).length = chgLen xs dt + 1 := by simp [chgL]
def chgTP (f : Int) (xs : List Int) (dt : Int) : Int × List Int × Int := if tableB f xs = true then (if inR dt (-500) 500 = true then (f, chgL xs dt, 0) else (0, [], 2)) else (0, [], 1)
def chgB (b : Bas) (r : Scenario) : Bas := ⟨b.first, chgL b.lives r.death, b.rate + r.rate⟩
def scenB (b : Bas) (r : Scenario) : Bool := inR r.rate (-200) 200 && (inR r.death (-500) 500 && inR (b.rate + r.rate) 0 200)
def chgBP (b : Bas) (r : Scenario) : Bas × Int := if basisB b = true then (if scenB b r = true then (chgB b r, 0) else (⟨0, [], 0⟩, 2)) else (⟨0, [], 0⟩, 1)
theorem chgL_small {f : Int} {xs : List Int} {dt : Int} (h : tableB f xs = true) : (chgL xs dt).length ≤ 121 := by
  rw [chgL_length]
  have := chgLen_le (xs := xs) (dt := dt)
  have := (table_ok h).len1
  omega
theorem chgT_small (f : Int) (xs : List Int) (dt : Int) : (chgTP f xs dt).2.1.length ≤ 1048576 := by
  unfold chgTP
  split
  · rename_i h
    split
    · have := chgL_small (dt := dt) h; simp only; omega
    · simp
  · simp
theorem chgB_small (b : Bas) (r : Scenario) : (chgBP b r).1.lives.length ≤ 1048576 := by
  unfold chgBP
  split
  · rename_i h
    have h1 : tableB b.first b.lives = true := by simp only [basisB, Bool.and_eq_true] at h; exact h.1
    split
    · have := chgL_small (dt := r.death) h1; simp only [chgB]; omega
    · simp
  · simp
theorem chgL_fits {f : Int} {xs : List Int} {dt : Int} (T : TabOk f xs) (hd : -500 ≤ dt ∧ dt ≤ 500) : ∀ x ∈ chgL xs dt, In64 x := by
  intro x hx
  simp only [chgL, List.mem_map] at hx
  obtain ⟨k, _, rfl⟩ := hx
  have := chg_bound T hd k
  unfold In64; omega
theorem scen_ok {b : Bas} {r : Scenario} (h : scenB b r = true) : (-200 ≤ r.rate ∧ r.rate ≤ 200) ∧ (-500 ≤ r.death ∧ r.death ≤ 500) ∧ 0 ≤ b.rate + r.rate ∧ b.rate + r.rate ≤ 200 := by
  simpa only [scenB, Bool.and_eq_true, inR_true] using h
theorem chgB_fits (b : Bas) (r : Scenario) : (chgBP b r).1.lives.length ≤ 1048576 ∧ (∀ x ∈ (chgBP b r).1.lives, In64 x) ∧ In64 (chgBP b r).1.first ∧ In64 (chgBP b r).1.rate := by
  refine ⟨chgB_small b r, ?_⟩
  unfold chgBP
  split
  · rename_i h
    have B := basis_ok h
    split
    · rename_i h2
      obtain ⟨h3, h4, h5⟩ := scen_ok h2
      have := B.tab.first0; have := B.tab.first1
      exact ⟨chgL_fits B.tab h4, by unfold chgB In64; simp only; omega, by unfold chgB In64; simp only; omega⟩
    · exact ⟨by simp, by unfold In64; simp, by unfold In64; simp⟩
  · exact ⟨by simp, by unfold In64; simp, by unfold In64; simp⟩
end Go.Proofs.YtbjdbpdgacfcpaaGreat
end

/- Plain facts on lists that the walks' relations want. No program in sight. -/
section
namespace Go.Proofs.YtbjdbpdgacfcpaaGreat

theorem all_succ {α : Type} {p : α → Bool} {xs : List α} {k : Nat} {x : α} (h : (xs.take k).all p = true) (hx : xs[k]? = some x) (hp : p x = true) : (xs.take (k + 1)).all p = true := by
  rw [List.take_add_one, hx]
  simp [h, hp]
theorem all_stop {α : Type} {p : α → Bool} {xs : List α} {k : Nat} {x : α} (hx : xs[k]? = some x) (hp : p x = false) : xs.all p = false := by
  rw [List.all_eq_false]
  exact ⟨x, List.mem_of_getElem? hx, by simp [hp]⟩
theorem all_end {α : Type} {p : α → Bool} {xs : List α} {n : Nat} (hl : xs.length = n) (h : (xs.take n).all p = true) : xs.all p = true := by
  rwa [List.take_of_length_le (by omega)] at h
theorem any_succ {α : Type} {p : α → Bool} {xs : List α} {k : Nat} {x : α} (h : (xs.take k).any p = false) (hx : xs[k]? = some x) (hp : p x = false) : (xs.take (k + 1)).any p = false := by
  rw [List.take_add_one, hx]
  simp [h, hp]
theorem any_stop {α : Type} {p : α → Bool} {xs : List α} {k : Nat} {x : α} (hx : xs[k]? = some x) (hp : p x = true) : xs.any p = true := by
  rw [List.any_eq_true]
  exact ⟨x, List.mem_of_getElem? hx, hp⟩
theorem any_end {α : Type} {p : α → Bool} {xs : List α} {n : Nat} (hl : xs.length = n) (h : (xs.take n).any p = false) : xs.any p = false := by
  rwa [List.take_of_length_le (by omega)] at h
theorem take_succ_snoc {α : Type} {xs : List α} {k : Nat} {x : α} (hx : xs[k]? = some x) : xs.take (k + 1) = xs.take k ++ [x] := by
  rw [List.take_add_one, hx]; rfl
theorem take_all {α : Type} {xs : List α} {n : Nat} (hl : xs.length = n) : xs.take n = xs := List.take_of_length_le (by omega)
theorem getD_of {α : Type} {xs : List α} {k : Nat} {x d : α} (hx : xs[k]? = some x) : xs.getD k d = x := by simp [hx]
theorem all_get {α : Type} {p : α → Bool} {xs : List α} {k : Nat} {x : α} (h : xs.all p = true) (hx : xs[k]? = some x) : p x = true := List.all_eq_true.1 h x (List.mem_of_getElem? hx)
end Go.Proofs.YtbjdbpdgacfcpaaGreat
end

/- Life tables: whether they are valid, their lives and ends: the program's and the reference's contracts. -/
section
namespace Go.Proofs.YtbjdbpdgacfcpaaGreat
open Go.RowKit Go.BigFrame

/-- part of a block as a struct's cells -/
theorem Blk.agg {w : World} {g : Nat} {t : TypeId} {cs : List Value} (h : Blk w g t cs.toArray) (o : Nat) (vs : List Value) (e : (cs.drop o).take vs.length = vs) :
    ∀ (j : Nat) (v : Value), vs[j]? = some v → w.cell? ((⟨g, o, none⟩ : Addr).add j) = some v := by
  intro j v hv
  rw [add_none, h.cell, List.getElem?_toArray]
  have hj := (List.getElem?_eq_some_iff.1 hv).1
  rw [← e, List.getElem?_take, if_pos hj, List.getElem?_drop] at hv
  exact hv
theorem Blk.agg_past {w : World} {g : Nat} {t : TypeId} {cs : List Value} (h : Blk w g t cs.toArray) (o : Nat) (vs : List Value) (e : (cs.drop o).take vs.length = vs) :
    ∀ w', (∃ y : Past w, w' = y.1) → ∀ (j : Nat) (v : Value), vs[j]? = some v → w'.cell? ((⟨g, o, none⟩ : Addr).add j) = some v := by
  rintro _ ⟨y, rfl⟩
  exact Blk.agg (h.below' y.2) o vs e
theorem intsLen_any (A : Option Addr) (n cap : Nat) (w : World) (_hn : n ≤ 1048576) :
    Calls Tryz.prog 93 #[.slice A n cap] w fun e w' => e = .returned (.int .i64 n) ∧ w = w' := by
  go_enter Tryz.func93, Tryz.ntmps93
  go_wp2
  go_ret
  exact ⟨rfl, rfl⟩

/-- a life table's lives lie in memory as told -/
structure LiesT (w : World) (A : Option Addr) (n : Nat) (xs : List Int) : Prop where
  len : xs.length = n
  small : n ≤ 1048576
  rd : Rd w w.heap.size A 1 (intRows xs)
  fits : ∀ x ∈ xs, In64 x
theorem LiesT.past {w w' : World} {A : Option Addr} {n : Nat} {xs : List Int} (h : LiesT w A n xs) (hb : Below w.heap.size w w') : LiesT w' A n xs := ⟨h.len, h.small, h.rd.past hb, h.fits⟩
theorem LiesT.at_ {w : World} {A : Option Addr} {n : Nat} {xs : List Int} (h : LiesT w A n xs) {k : Nat} (hk : k < n) : ∃ ad, A = some ad ∧ ad.block < w.heap.size ∧ w.cell? (ad.add k) = some (.int .i64 (lv xs k)) := h.rd.int_at (lv_some (by rw [h.len]; exact hk))
theorem lv_fits {xs : List Int} (h : ∀ x ∈ xs, In64 x) (k : Nat) : In64 (lv xs k) := by
  by_cases hk : k < xs.length
  · exact h _ (List.mem_of_getElem? (lv_some hk))
  · rw [lv_past (by omega)]; unfold In64; omega
theorem add_zero_at (a : Addr) : a.add 0 = a := by simp [Addr.add]
theorem all_range_stop {p : Nat → Bool} {m k : Nat} (hk : k < m) (h : p k = false) : (List.range m).all p = false := by
  rw [List.all_eq_false]; exact ⟨k, by simpa using hk, by simpa using h⟩

set_option maxHeartbeats 4000000 in
theorem impl_IsLifeTable_any (first : Int) (A : Option Addr) (n cap : Nat) (xs : List Int) (w : World) (hT : LiesT w A n xs) (hcap : n ≤ cap) (_hf : In64 first) :
    Calls Tryz.prog 19 #[.agg #[.int .i64 first, .slice A n cap]] w fun e w' => e = .returned (.bool (tableB first xs)) ∧ Below w.heap.size w w' := by
  have hbw : Below w.heap.size w (w.alloc (.cells #[.int .i64 first, .slice A n cap] 26)) := (Below.refl _ w).alloc (Nat.le_refl _) _
  have HT := Lib.hid (hT.past hbw); clear hT
  have hn := HT.out.small
  have HL := Lib.hid HT.out.len
  by_cases h1 : inR first 0 100 = true
  rotate_left
  · have Q := Lib.hid (show tableB first xs = false by simp [tableB, headB, h1])
    have h1' : inR first 0 100 = false := by simpa using h1
    clear h1
    go_enter Tryz.func19, Tryz.ntmps19
    go_wp2_with (first | (go_at_call 93; refine (intsLen_any A n cap _ hn).mono ?_; rintro e w' ⟨rfl, rfl⟩) | (go_at_call 82; refine (impl_inRange_any _ _ _ _).mono ?_; rintro e w' ⟨rfl, rfl⟩))
    go_ret
    exact ⟨by rw [Q.out]; rfl, hbw⟩
  by_cases h2 : inR n 2 120 = true
  rotate_left
  · have Q := Lib.hid (show tableB first xs = false by simp [tableB, headB, HL.out, h2])
    have h2' : inR n 2 120 = false := by simpa using h2
    clear h2
    go_enter Tryz.func19, Tryz.ntmps19
    go_wp2_with (first | (go_at_call 93; refine (intsLen_any A n cap _ hn).mono ?_; rintro e w' ⟨rfl, rfl⟩) | (go_at_call 82; refine (impl_inRange_any _ _ _ _).mono ?_; rintro e w' ⟨rfl, rfl⟩))
    go_ret
    exact ⟨by rw [Q.out]; rfl, hbw⟩
  obtain ⟨n1, n2⟩ := inR_true.1 h2
  obtain ⟨f1, f2⟩ := inR_true.1 h1
  obtain ⟨ad, rfl, had, hc0⟩ := HT.out.at_ (k := 0) (by omega)
  rw [add_zero_at] at hc0
  have hadb : ad.block < w.heap.size + 1 := by simpa using had
  by_cases h3 : lv xs 0 ≤ 1000000
  rotate_left
  · have Q := Lib.hid (show tableB first xs = false by simp [tableB, headB, h3])
    go_enter Tryz.func19, Tryz.ntmps19
    go_wp2_with (first | (go_at_call 93; refine (intsLen_any _ n cap _ hn).mono ?_; rintro e w' ⟨rfl, rfl⟩) | (go_at_call 82; refine (impl_inRange_any _ _ _ _).mono ?_; rintro e w' ⟨rfl, rfl⟩))
    go_ret
    exact ⟨by rw [Q.out]; rfl, hbw⟩
  obtain ⟨m, hm⟩ : ∃ m : Nat, n = m + 1 := ⟨n - 1, by omega⟩
  have hmi : (n : Int) - 1 = (m : Int) := by omega
  have HM := Lib.hid hm; clear hm
  have hmn : m < n := by have := HM.out; omega
  obtain ⟨ad', had', had2, hcm⟩ := HT.out.at_ (k := m) hmn
  injection had' with had'; subst had'
  by_cases h4 : lv xs m = 0
  rotate_left
  · have Q := Lib.hid (show tableB first xs = false by simp [tableB, headB, HL.out, show n - 1 = m by have := HM.out; omega, h4])
    go_enter Tryz.func19, Tryz.ntmps19
    go_wp2_with (first | (go_at_call 93; refine (intsLen_any _ n cap _ hn).mono ?_; rintro e w' ⟨rfl, rfl⟩) | (go_at_call 82; refine (impl_inRange_any _ _ _ _).mono ?_; rintro e w' ⟨rfl, rfl⟩))
    go_ret
    exact ⟨by rw [Q.out]; rfl, hbw⟩
  have H4 := Lib.hid h4
  rw [h4] at hcm
  clear h4
  by_cases h5 : first + (n : Int) - 1 ≤ 150
  rotate_left
  · have Q := Lib.hid (show tableB first xs = false by simp [tableB, headB, HL.out, h5])
    go_enter Tryz.func19, Tryz.ntmps19
    go_wp2_with (first | (go_at_call 93; refine (intsLen_any _ n cap _ hn).mono ?_; rintro e w' ⟨rfl, rfl⟩) | (go_at_call 82; refine (impl_inRange_any _ _ _ _).mono ?_; rintro e w' ⟨rfl, rfl⟩))
    go_ret
    exact ⟨by rw [Q.out]; rfl, hbw⟩
  have Q := Lib.hid (show tableB first xs = (List.range m).all (rowB xs) by
    have e : headB first xs = true := by simp [headB, HL.out, h1, h2, h3, h5, show n - 1 = m by have := HM.out; omega, H4.out]
    rw [tableB, e, HL.out, show n - 1 = m by have := HM.out; omega, Bool.true_and])
  go_enter Tryz.func19, Tryz.ntmps19
  go_wp2_with (first | (go_at_call 93; refine (intsLen_any _ n cap _ hn).mono ?_; rintro e w' ⟨rfl, rfl⟩) | (go_at_call 82; refine (impl_inRange_any _ _ _ _).mono ?_; rintro e w' ⟨rfl, rfl⟩))
  go_loop [48] (fun i => ∃ k : Nat, k ≤ m ∧ i = .int .i64 k ∧ (List.range k).all (rowB xs) = true) (fun i => m - (intOf i).toNat)
  case atStart => exact ⟨0, by omega, rfl, rfl⟩
  case round =>
    obtain ⟨k, hk, rfl, hall⟩ := hrel
    have HA := Lib.hid hall; clear hall
    by_cases hlt : k < m
    rotate_left
    · have hkm : k = m := by omega
      subst hkm
      go_wp2
      go_ret
      exact ⟨by rw [Q.out, HA.out]; rfl, hbw⟩
    obtain ⟨ad1, had1, _, hck⟩ := HT.out.at_ (k := k) (by omega)
    injection had1 with had1; subst had1
    have hlk := lv_fits HT.out.fits k
    obtain ⟨g1, g2⟩ := hlk
    have hkm2 : (k : Int) < (m : Int) := by omega
    by_cases hp : 1 ≤ lv xs k
    rotate_left
    · have hr : rowB xs k = false := by simp [rowB, hp]
      have HR := Lib.hid hr; clear hr
      go_wp2
      go_ret
      exact ⟨by rw [Q.out, all_range_stop hlt HR.out]; rfl, hbw⟩
    cases k with
    | zero =>
      have hr : rowB xs 0 = true := by simp [rowB, hp]
      have HR := Lib.hid hr; clear hr
      rw [add_zero_at] at hck
      go_wp2
      go_round
      case rel => exact ⟨1, by omega, by go_num, by rw [List.range_succ, List.all_append, HA.out]; simp [HR.out]⟩
      case measure => simp [intOf]; omega
    | succ k =>
      obtain ⟨ad2, had2', _, hcp⟩ := HT.out.at_ (k := k) (by omega)
      injection had2' with had2'; subst had2'
      have ek : (((k + 1 : Nat) : Int) - 1) = (k : Int) := by omega
      rw [show ad.add (k + 1) = ⟨ad.block, ad.off + (k + 1), none⟩ from by simp [Addr.add]] at hck
      by_cases hq : lv xs (k + 1) ≤ lv xs k
      · have hr : rowB xs (k + 1) = true := by simp [rowB, hp, hq]
        have HR := Lib.hid hr; clear hr
        go_wp2
        go_round
        case rel => exact ⟨k + 2, by omega, by go_num, by rw [List.range_succ, List.all_append, HA.out]; simp [HR.out]⟩
        case measure => simp [intOf]; omega
      · have hr : rowB xs (k + 1) = false := by simp [rowB, hq]
        have HR := Lib.hid hr; clear hr
        go_wp2
        go_ret
        exact ⟨by rw [Q.out, all_range_stop hlt HR.out]; rfl, hbw⟩
end Go.Proofs.YtbjdbpdgacfcpaaGreat
end

/- Lives at an age, deaths, a table's end: the program's and the reference's contracts. -/
section
namespace Go.Proofs.YtbjdbpdgacfcpaaGreat
open Go.RowKit Go.BigFrame

theorem Tab.size : (Tryz.prog.info? 26).map (·.size) = some 2 := by kernel_rfl
theorem LiesT.at_past {w : World} {A : Option Addr} {n : Nat} {xs : List Int} (h : LiesT w A n xs) (x : Past w) : LiesT x.1 A n xs := h.past x.2

theorem impl_LifeTable_end_any (first : Int) (A : Option Addr) (n cap : Nat) (w : World) (hn : n ≤ 1048576) (hf : 0 ≤ first ∧ first ≤ 100) :
    Calls Tryz.prog 152 #[.agg #[.int .i64 first, .slice A n cap]] w fun e w' => e = .returned (.int .i64 (first + (n : Int) - 1)) ∧ Below w.heap.size w w' := by
  have hbw : Below w.heap.size w (w.alloc (.cells #[.int .i64 first, .slice A n cap] 26)) := (Below.refl _ w).alloc (Nat.le_refl _) _
  have HB := Lib.hid (Blk.new w 26 #[.int .i64 first, .slice A n cap])
  obtain ⟨f1, f2⟩ := hf
  have b0 : (w.alloc (.cells #[.int .i64 first, .slice A n cap] 26)).cell? ⟨w.heap.size, 0, none⟩ = some (.int .i64 first) := HB.out.cell 0
  have b1 : (w.alloc (.cells #[.int .i64 first, .slice A n cap] 26)).cell? ⟨w.heap.size, 1, none⟩ = some (.slice A n cap) := HB.out.cell 1
  have d0 := fun y : Past (w.alloc (.cells #[.int .i64 first, .slice A n cap] 26)) => Past.cell b0 y
  have d1 := fun y : Past (w.alloc (.cells #[.int .i64 first, .slice A n cap] 26)) => Past.cell b1 y
  go_enter Tryz.func152, Tryz.ntmps152
  go_wp2
  refine wp_region_past (by kernel_rfl) (by kernel_rfl) ?_
  repeat (go_big_quiet_step ((go_at_call 93; exact past_same (intsLen_any A n cap _ hn))))
  refine wpQuiet_nil ?_
  rintro _ ⟨y, rfl⟩
  go_wp2
  go_ret
  exact ⟨rfl, hbw.trans (y.2.mono (by simp))⟩

theorem spec_l03End_any (first : Int) (A : Option Addr) (n cap : Nat) (w : World) (hn : n ≤ 1048576) (hf : 0 ≤ first ∧ first ≤ 100) :
    Calls Tryz.prog 167 #[.agg #[.int .i64 first, .slice A n cap]] w fun e w' => e = .returned (.int .i64 (first + (n : Int) - 1)) ∧ Below w.heap.size w w' := by
  have hbw : Below w.heap.size w (w.alloc (.cells #[.int .i64 first, .slice A n cap] 26)) := (Below.refl _ w).alloc (Nat.le_refl _) _
  obtain ⟨f1, f2⟩ := hf
  go_enter Tryz.func167, Tryz.ntmps167
  go_wp2
  go_ret
  exact ⟨rfl, hbw⟩

set_option maxHeartbeats 1000000 in
theorem impl_LifeTable_lives_any (first : Int) (A : Option Addr) (n cap : Nat) (xs : List Int) (age : Int) (w : World) (hT : LiesT w A n xs) (T : TabOk first xs) (ha : first ≤ age ∧ age ≤ 100000) :
    Calls Tryz.prog 112 #[.agg #[.int .i64 first, .slice A n cap], .int .i64 age] w fun e w' => e = .returned (.int .i64 (lv xs (age - first).toNat)) ∧ Below w.heap.size w w' := by
  have hbw : Below w.heap.size w (w.alloc (.cells #[.int .i64 first, .slice A n cap] 26)) := (Below.refl _ w).alloc (Nat.le_refl _) _
  have HB := Lib.hid (Blk.new w 26 #[.int .i64 first, .slice A n cap])
  have HT := Lib.hid (hT.past hbw); clear hT
  have hn := HT.out.small
  have HL := Lib.hid HT.out.len
  obtain ⟨a1, a2⟩ := ha
  obtain ⟨k, hk⟩ := Int.eq_ofNat_of_zero_le (show 0 ≤ age - first by omega)
  have e : (age - first).toNat = k := by omega
  rw [e]
  have T1 := T.first0; have T2 := T.first1
  have HTab := Lib.hid T; clear T
  by_cases h : first + (n : Int) - 1 < age
  · have Q := Lib.hid (show lv xs k = 0 from HTab.out.zero k (by have := HL.out; omega))
    clear e
    go_enter Tryz.func112, Tryz.ntmps112
    go_wp2_with (first | (go_at_call 152; refine (impl_LifeTable_end_any first A n cap _ hn ⟨T1, T2⟩).mono ?_; rintro e w1 ⟨rfl, hb1⟩))
    go_ret
    exact ⟨by rw [Q.out]; rfl, hbw.trans (hb1.mono (by simp))⟩
  · obtain ⟨ad, rfl, had, hck⟩ := HT.out.at_ (k := k) (by omega)
    clear e
    go_enter Tryz.func112, Tryz.ntmps112
    go_wp2_with fail
    refine (impl_LifeTable_end_any first (some ad) n cap _ hn ⟨T1, T2⟩).mono ?_
    rintro e w1 ⟨rfl, hb1⟩
    have b0 : w1.cell? ⟨w.heap.size, 0, none⟩ = some (.int .i64 first) := (HB.out.below' hb1).cell 0
    have b1 : w1.cell? ⟨w.heap.size, 1, none⟩ = some (.slice (some ad) n cap) := (HB.out.below' hb1).cell 1
    have hck1 := (hb1.cell (p := ad.add k) (by rw [block_of_add]; exact had)).trans hck
    have hkn : (k : Int) < (n : Int) := by omega
    go_wp2
    go_ret
    exact ⟨rfl, hbw.trans (hb1.mono (by simp))⟩

set_option maxHeartbeats 1000000 in
theorem spec_l03Lives_any (first : Int) (A : Option Addr) (n cap : Nat) (xs : List Int) (age : Int) (w : World) (hT : LiesT w A n xs) (hf : 0 ≤ first ∧ first ≤ 100) (ha : first ≤ age ∧ age ≤ 100000) :
    Calls Tryz.prog 113 #[.agg #[.int .i64 first, .slice A n cap], .int .i64 age] w fun e w' => e = .returned (.int .i64 (lv xs (age - first).toNat)) ∧ Below w.heap.size w w' := by
  have hbw : Below w.heap.size w (w.alloc (.cells #[.int .i64 first, .slice A n cap] 26)) := (Below.refl _ w).alloc (Nat.le_refl _) _
  have HT := Lib.hid (hT.past hbw); clear hT
  have hn := HT.out.small
  have HL := Lib.hid HT.out.len
  obtain ⟨a1, a2⟩ := ha
  obtain ⟨f1, f2⟩ := hf
  obtain ⟨k, hk⟩ := Int.eq_ofNat_of_zero_le (show 0 ≤ age - first by omega)
  have e : (age - first).toNat = k := by omega
  rw [e]
  clear e
  by_cases h : n ≤ k
  · have Q := Lib.hid (show lv xs k = 0 from lv_past (by have := HL.out; omega))
    have h' : (n : Int) ≤ (k : Int) := by omega
    go_enter Tryz.func113, Tryz.ntmps113
    go_wp2
    go_ret
    exact ⟨by rw [Q.out]; rfl, hbw⟩
  · obtain ⟨ad, rfl, had, hck⟩ := HT.out.at_ (k := k) (by omega)
    have hkn : (k : Int) < (n : Int) := by omega
    go_enter Tryz.func113, Tryz.ntmps113
    go_wp2
    go_ret
    exact ⟨rfl, hbw⟩

theorem impl_LifeTable_deaths_any (first : Int) (A : Option Addr) (n cap : Nat) (xs : List Int) (age : Int) (w : World) (hT : LiesT w A n xs) (T : TabOk first xs) (ha : first ≤ age ∧ age ≤ 10000) :
    Calls Tryz.prog 111 #[.agg #[.int .i64 first, .slice A n cap], .int .i64 age] w fun e w' => e = .returned (.int .i64 (lv xs (age - first).toNat - lv xs ((age - first).toNat + 1))) ∧ Below w.heap.size w w' := by
  have hbw : Below w.heap.size w (w.alloc (.cells #[.int .i64 first, .slice A n cap] 26)) := (Below.refl _ w).alloc (Nat.le_refl _) _
  have HB := Lib.hid (Blk.new w 26 #[.int .i64 first, .slice A n cap])
  have HT := Lib.hid (hT.past hbw); clear hT
  obtain ⟨a1, a2⟩ := ha
  have T1 := T.first0; have T2 := T.first1
  have HTab := Lib.hid T; clear T
  have l1 := HTab.out.nonneg (age - first).toNat
  have l2 := HTab.out.most (age - first).toNat
  have l3 := HTab.out.nonneg ((age - first).toNat + 1)
  have l4 := HTab.out.most ((age - first).toNat + 1)
  have hE := (show (age + 1 - first).toNat = (age - first).toNat + 1 by omega)
  have hcs := Lib.hid (Blk.agg_past (cs := [.int .i64 first, .slice A n cap]) HB.out 0 [.int .i64 first, .slice A n cap] rfl)
  go_enter Tryz.func111, Tryz.ntmps111
  go_wp2
  refine wp_region_past (by kernel_rfl) (by kernel_rfl) ?_
  repeat (first | (go_big_quiet_want; (first | (refine quiet_load_agg 26 _ rfl ⟨w.heap.size, 0, none⟩ rfl [.int .i64 first, .slice A n cap] hcs.out _ Tryz.underlying26 rfl Tab.size ?_)); go_simp; go_big_quiet_on) | go_big_quiet_step ((go_at_call 112; exact past_call (impl_LifeTable_lives_any first A n cap xs _ _ (HT.out.at_past _) HTab.out ⟨by omega, by omega⟩))))
  refine wpQuiet_nil ?_
  rintro _ ⟨y, rfl⟩
  go_wp2
  go_ret
  exact ⟨rfl, hbw.trans (y.2.mono (by simp))⟩

set_option maxHeartbeats 1000000 in
theorem spec_l05D_any (first : Int) (A : Option Addr) (n cap : Nat) (xs : List Int) (rate age : Int) (w : World) (hT : LiesT w A n xs) (T : TabOk first xs) (hr : 0 ≤ rate ∧ rate ≤ 200) (ha : first ≤ age ∧ age ≤ 1000) :
    Calls Tryz.prog 170 #[.agg #[.int .i64 first, .slice A n cap], .int .i64 rate, .int .i64 age] w fun e w' => e = .returned (.int .i64 (dC xs rate (age - first).toNat)) ∧ Below w.heap.size w w' := by
  have hbw : Below w.heap.size w (w.alloc (.cells #[.int .i64 first, .slice A n cap] 26)) := (Below.refl _ w).alloc (Nat.le_refl _) _
  have HB := Lib.hid (Blk.new w 26 #[.int .i64 first, .slice A n cap])
  have HT := Lib.hid (hT.past hbw); clear hT
  have HL := Lib.hid HT.out.len
  obtain ⟨a1, a2⟩ := ha
  obtain ⟨r1, r2⟩ := hr
  obtain ⟨k, hk⟩ := Int.eq_ofNat_of_zero_le (show 0 ≤ age - first by omega)
  have HE := Lib.hid (show (age - first).toNat = k by omega)
  rw [HE.out]
  have T1 := T.first0; have T2 := T.first1
  have HTab := Lib.hid T; clear T
  by_cases h1 : k ≤ 120
  rotate_left
  · have Q := Lib.hid (show dC xs rate k = 0 from dC_zero HTab.out k (by have := HTab.out.len1; omega))
    go_enter Tryz.func170, Tryz.ntmps170
    go_wp2
    go_ret
    exact ⟨by rw [Q.out]; rfl, hbw⟩
  have l1 := HTab.out.nonneg k
  have l2 := HTab.out.most k
  by_cases h2 : lv xs k = 0
  · have Q := Lib.hid (show dC xs rate k = 0 by unfold dC; rw [h2, Int.zero_mul])
    have H2 := Lib.hid h2
    clear l1 l2 h2
    go_enter Tryz.func170, Tryz.ntmps170
    go_wp2_with (first | (go_at_call 113; refine (spec_l03Lives_any first A n cap xs age _ HT.out ⟨by omega, by omega⟩ ⟨by omega, by omega⟩).mono ?_; rw [HE.out, H2.out]; rintro e w1 ⟨rfl, hb1⟩))
    go_ret
    exact ⟨by rw [Q.out]; rfl, hbw.trans (hb1.mono (by simp))⟩
  have h2' : ¬ lv xs k = 0 := h2
  have h2b : (lv xs k == 0) = false := by simp [h2]
  have h1b : decide (120 < (k : Int)) = false := by simp; omega
  obtain ⟨e1, e2⟩ := disc_bound r1 k
  have m1 : 0 ≤ lv xs k * disc rate k := Int.mul_nonneg l1 e1
  have m2 : lv xs k * disc rate k ≤ 1000000 * 1000000000 := Int.mul_le_mul l2 e2 e1 (by omega)
  go_enter Tryz.func170, Tryz.ntmps170
  go_wp2_with fail
  refine (spec_l03Lives_any first A n cap xs age _ HT.out ⟨by omega, by omega⟩ ⟨by omega, by omega⟩).mono ?_
  rw [HE.out]
  rintro e w1 ⟨rfl, hb1⟩
  have HB1 := Lib.hid (HB.out.below' hb1)
  have HT1 := Lib.hid (HT.out.past hb1)
  have hc1 := Lib.hid (Blk.agg (cs := [.int .i64 first, .slice A n cap]) HB1.out 0 [.int .i64 first, .slice A n cap] rfl)
  go_wp2_with (refine wpList_load_agg rfl 26 _ rfl ⟨w.heap.size, 0, none⟩ rfl [.int .i64 first, .slice A n cap] hc1.out _ Tryz.underlying26 rfl Tab.size ?_)
  refine (spec_l03Lives_any first A n cap xs age _ HT1.out ⟨by omega, by omega⟩ ⟨by omega, by omega⟩).mono ?_
  rw [HE.out]
  rintro e w2 ⟨rfl, hb2⟩
  go_wp2_with fail
  refine (spec_l04Discount_nat rate k _ ⟨r1, r2⟩ (by omega)).mono ?_
  rintro e w3 ⟨rfl, rfl⟩
  go_wp2
  go_ret
  exact ⟨rfl, hbw.trans ((hb1.mono (by simp)).trans (hb2.mono (by have := hb1.size; simp at this; omega)))⟩

set_option maxHeartbeats 2000000 in
theorem spec_l05C_any (first : Int) (A : Option Addr) (n cap : Nat) (xs : List Int) (rate age : Int) (w : World) (hT : LiesT w A n xs) (T : TabOk first xs) (hr : 0 ≤ rate ∧ rate ≤ 200) (ha : first ≤ age ∧ age ≤ 1000) :
    Calls Tryz.prog 200 #[.agg #[.int .i64 first, .slice A n cap], .int .i64 rate, .int .i64 age] w fun e w' => e = .returned (.int .i64 (cC xs rate (age - first).toNat)) ∧ Below w.heap.size w w' := by
  have hbw : Below w.heap.size w (w.alloc (.cells #[.int .i64 first, .slice A n cap] 26)) := (Below.refl _ w).alloc (Nat.le_refl _) _
  have HB := Lib.hid (Blk.new w 26 #[.int .i64 first, .slice A n cap])
  have HT := Lib.hid (hT.past hbw); clear hT
  have HL := Lib.hid HT.out.len
  obtain ⟨a1, a2⟩ := ha
  obtain ⟨r1, r2⟩ := hr
  obtain ⟨k, hk⟩ := Int.eq_ofNat_of_zero_le (show 0 ≤ age - first by omega)
  have HE := Lib.hid (show (age - first).toNat = k by omega)
  have hE1 : (age + 1 - first).toNat = k + 1 := by omega
  rw [HE.out]
  have hE0 := HE.out
  have T1 := T.first0; have T2 := T.first1
  have HTab := Lib.hid T; clear T
  have l1 := HTab.out.nonneg k
  have l2 := HTab.out.most k
  have l3 := HTab.out.nonneg (k + 1)
  have l4 := HTab.out.anti k
  have hcs := Lib.hid (Blk.agg_past (cs := [.int .i64 first, .slice A n cap]) HB.out 0 [.int .i64 first, .slice A n cap] rfl)
  have hk1 : (k : Int) + 1 = ((k + 1 : Nat) : Int) := by omega
  have HK1 := Lib.hid hk1; clear hk1
  by_cases h1 : k + 1 ≤ 120
  rotate_left
  · have Q := Lib.hid (show cC xs rate k = 0 from cC_zero HTab.out k (by have := HTab.out.len1; omega))
    have h1i : ¬ (k : Int) + 1 ≤ 120 := by omega
    go_enter Tryz.func200, Tryz.ntmps200
    go_wp2
    refine wp_region_past (by kernel_rfl) (by kernel_rfl) ?_
    repeat (first | (go_big_quiet_want; (first | (refine quiet_load_agg 26 _ rfl ⟨w.heap.size, 0, none⟩ rfl [.int .i64 first, .slice A n cap] hcs.out _ Tryz.underlying26 rfl Tab.size ?_)); go_simp; go_big_quiet_on) | go_big_quiet_step ((go_at_call 113; exact past_call (spec_l03Lives_any first A n cap xs _ _ (HT.out.at_past _) ⟨by omega, by omega⟩ ⟨by omega, by omega⟩))))
    refine wpQuiet_nil ?_
    rintro _ ⟨y, rfl⟩
    go_wp2
    go_ret
    exact ⟨by rw [Q.out]; rfl, hbw.trans (y.2.mono (by simp))⟩
  have h1i : (k : Int) + 1 ≤ 120 := by omega
  obtain ⟨dd, hdd⟩ : ∃ dd, lv xs k - lv xs (k + 1) = dd := ⟨_, rfl⟩
  have QC := Lib.hid (show cC xs rate k = dd * disc rate (k + 1) by unfold cC; rw [hdd])
  have g1 : 0 ≤ dd := by omega
  have g2 : dd ≤ 1000000 := by omega
  by_cases h2 : dd = 0
  · have Q := Lib.hid (show cC xs rate k = 0 by rw [QC.out, h2, Int.zero_mul])
    rw [h2] at hdd
    clear g1 g2 h2 QC
    go_enter Tryz.func200, Tryz.ntmps200
    go_wp2
    refine wp_region_past (by kernel_rfl) (by kernel_rfl) ?_
    repeat (first | (go_big_quiet_want; (first | (refine quiet_load_agg 26 _ rfl ⟨w.heap.size, 0, none⟩ rfl [.int .i64 first, .slice A n cap] hcs.out _ Tryz.underlying26 rfl Tab.size ?_)); go_simp; go_big_quiet_on) | go_big_quiet_step ((go_at_call 113; exact past_call (spec_l03Lives_any first A n cap xs _ _ (HT.out.at_past _) ⟨by omega, by omega⟩ ⟨by omega, by omega⟩))))
    refine wpQuiet_nil ?_
    rintro _ ⟨y, rfl⟩
    go_wp2
    go_ret
    exact ⟨by rw [Q.out]; rfl, hbw.trans (y.2.mono (by simp))⟩
  have h2b : (dd == 0) = false := by simp [h2]
  have h1b : decide (120 < (k : Int) + 1) = false := by simp; omega
  have h1c : decide (120 < k + 1) = false := by simp; omega
  obtain ⟨e1, e2⟩ := disc_bound r1 (k + 1)
  have m1 : 0 ≤ dd * disc rate (k + 1) := Int.mul_nonneg g1 e1
  have m2 : dd * disc rate (k + 1) ≤ 1000000 * 1000000000 := Int.mul_le_mul g2 e2 e1 (by omega)
  go_enter Tryz.func200, Tryz.ntmps200
  go_wp2
  refine wp_region_past (by kernel_rfl) (by kernel_rfl) ?_
  repeat (first | (go_big_quiet_want; (first | (refine quiet_load_agg 26 _ rfl ⟨w.heap.size, 0, none⟩ rfl [.int .i64 first, .slice A n cap] hcs.out _ Tryz.underlying26 rfl Tab.size ?_)); go_simp; go_big_quiet_on) | go_big_quiet_step ((go_at_call 113; exact past_call (spec_l03Lives_any first A n cap xs _ _ (HT.out.at_past _) ⟨by omega, by omega⟩ ⟨by omega, by omega⟩))))
  refine wpQuiet_nil ?_
  rintro _ ⟨y, rfl⟩
  go_wp2_with fail
  refine (spec_l04Discount_any rate _ _ ⟨r1, r2⟩ ⟨by omega, by omega⟩).mono ?_
  rw [show ((k : Int) + 1).toNat = k + 1 by omega]
  rintro e w3 ⟨rfl, rfl⟩
  go_wp2
  go_ret
  exact ⟨by rw [QC.out]; rfl, hbw.trans (y.2.mono (by simp))⟩
end Go.Proofs.YtbjdbpdgacfcpaaGreat
end
