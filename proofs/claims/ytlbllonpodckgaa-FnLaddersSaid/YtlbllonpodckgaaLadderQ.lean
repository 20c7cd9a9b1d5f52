/- Plain laws of ladders: a ladder's bonds are bonds, and it covers its needs without cash; the cash that is needed covers, one less does not. -/
import Derived.Test.YtlbllonpodckgaaLadderP
import Derived.Test.YtlbllonpodckgaaKept2
namespace Go.Proofs.Ytlbllonpodckgaa

theorem flow_cons (b : Bond) (l : List Bond) (i : Nat) : flowAt (b :: l) i = pay b i + flowAt l i := by simp [flowAt]
theorem ladS_flow {c : Int} {ys : List Int} (hc : 0 ≤ c ∧ c ≤ 200) : ∀ j : Nat, j ≤ ys.length →
    (∀ i : Nat, i + j < ys.length → flowAt (ladS c ys j).1 i = (ladS c ys j).2) ∧ (∀ i : Nat, ys.length ≤ i + j → i < ys.length → ys.getD i 0 ≤ flowAt (ladS c ys j).1 i)
  | 0, _ => ⟨fun i _ => by simp [ladS, flowAt], fun i h1 h2 => by omega⟩
  | j + 1, hj => by
    obtain ⟨h1, h2⟩ := ladS_flow (ys := ys) hc j (by omega)
    obtain ⟨k, hk⟩ : ∃ k, ys.length - 1 - j = k := ⟨_, rfl⟩
    have hkj : k + j + 1 = ys.length := by omega
    have e1 := h1 k (by omega)
    unfold ladS
    rw [hk]
    have hge := nom_ge (a := ys.getD k 0 - (ladS c ys j).2) hc
    split
    · rename_i hpos
      obtain ⟨N, hN⟩ : ∃ N, nomP (ys.getD k 0 - (ladS c ys j).2) c = N := ⟨_, rfl⟩
      rw [hN] at hge hpos ⊢
      have ep : payC ⟨N, c, (k : Int) + 1⟩ = N * c / 1000 := rfl
      refine ⟨fun i hi => ?_, fun i hi hi2 => ?_⟩
      · rw [flow_cons, h1 i (by omega)]
        have : pay ⟨N, c, (k : Int) + 1⟩ i = N * c / 1000 := by
          unfold pay; rw [ep]; simp only; rw [if_pos (by omega), if_neg (by omega)]; omega
        rw [this]; simp only; omega
      · rw [flow_cons]
        rcases Nat.lt_or_ge k i with hlt | hle
        · have : pay ⟨N, c, (k : Int) + 1⟩ i = 0 := by
            unfold pay; simp only; rw [if_neg (by omega), if_neg (by omega)]; omega
          rw [this]
          have := h2 i (by omega) hi2
          omega
        · have hik : i = k := by omega
          subst hik
          have : pay ⟨N, c, (i : Int) + 1⟩ i = N * c / 1000 + N := by
            unfold pay; rw [ep]; simp only; rw [if_pos (by omega)]; simp
          rw [this, e1]
          omega
    · rename_i hz
      have hz0 : nomP (ys.getD k 0 - (ladS c ys j).2) c = 0 := by have := nom_nonneg (ys.getD k 0 - (ladS c ys j).2) c; omega
      rw [hz0] at hge
      refine ⟨fun i hi => h1 i (by omega), fun i hi hi2 => ?_⟩
      rcases Nat.lt_or_ge k i with hlt | hle
      · exact h2 i (by omega) hi2
      · have hik : i = k := by omega
        subst hik
        rw [e1]
        rw [Int.zero_mul] at hge
        omega
theorem ladS_bonds {c : Int} {ys : List Int} (hc : 0 ≤ c ∧ c ≤ 200) (hl : ys.length ≤ 40) (h : ∀ y ∈ ys, 0 ≤ y ∧ y ≤ 1000000000) : ∀ j : Nat, ∀ b ∈ (ladS c ys j).1, bondB b = true
  | 0, b, hb => by simp [ladS] at hb
  | j + 1, b, hb => by
    unfold ladS at hb
    split at hb
    · rename_i hpos
      rcases List.mem_cons.1 hb with rfl | hb
      · have h4 := nom_bound (a := ys.getD (ys.length - 1 - j) 0 - (ladS c ys j).2) hc (by have := (ladS_bound hc h j).1; have := need_bound h (ys.length - 1 - j); omega)
        simp only [bondB, Bool.and_eq_true, inR_true]
        exact ⟨⟨by omega, h4⟩, hc, by omega⟩
      · exact ladS_bonds hc hl h j b hb
    · exact ladS_bonds hc hl h j b hb
theorem cash_mono {f : Nat → Int} {ys : List Int} (h : ∀ i : Nat, i < ys.length → ys.getD i 0 ≤ f i) : ∀ k : Nat, k ≤ ys.length → 0 ≤ cashAt f ys 0 k
  | 0, _ => by simp [cashAt]
  | k + 1, hk => by
    have h1 := cash_mono h k (by omega)
    have h2 := h k (by omega)
    unfold cashAt; omega
/-- a ladder is a list of bonds, and needs no cash -/
theorem ladder_good {ys : List Int} {c : Int} (h : (ladderP ys c).2 = 0) : bondsB (ladderP ys c).1 = true ∧ cashNeededP (ladderP ys c).1 ys = (0, 0) := by
  unfold ladderP at h ⊢
  split at h
  · rename_i hg
    rw [if_pos hg]
    obtain ⟨h1, h2, h3⟩ := hg
    have hc := inR_true.1 h3
    have h1' := h1
    simp only [needsB, Bool.and_eq_true, decide_eq_true_eq, allR, List.all_eq_true] at h1'
    have hy : ∀ y ∈ ys, 0 ≤ y ∧ y ≤ 1000000000 := fun y hy => inR_true.1 (h1'.2 y hy)
    have hb : bondsB (ladS c ys ys.length).1 = true := by
      simp only [bondsB, Bool.and_eq_true, decide_eq_true_eq, List.all_eq_true]
      exact ⟨by have := (ladS_bound hc hy ys.length).2; omega, ladS_bonds hc (by omega) hy ys.length⟩
    refine ⟨hb, ?_⟩
    have hcode : needsCode (ladS c ys ys.length).1 ys 0 = 0 := by
      unfold needsCode; rw [if_pos hb, if_pos ⟨h1, by decide⟩]
    unfold cashNeededP
    rw [if_pos hcode]
    have hf := (ladS_flow (c := c) (ys := ys) hc ys.length (Nat.le_refl _)).2
    have hz : leastP (keptL (ladS c ys ys.length).1 ys 0) = 0 := foldl_min_zero _ fun z hz => by
      simp only [keptL, keptTo, List.mem_map, List.mem_range] at hz
      obtain ⟨j, hj, rfl⟩ := hz
      exact cash_mono (fun i hi => hf i (by omega) hi) (j + 1) (by omega)
    rw [hz]; rfl
  · simp at h
/-! ### cash that is needed -/
theorem cash_shift (f : Nat → Int) (ys : List Int) (c : Int) : ∀ k : Nat, cashAt f ys c k = cashAt f ys 0 k + c
  | 0 => by simp [cashAt]
  | k + 1 => by unfold cashAt; rw [cash_shift f ys c k]; omega
theorem foldl_min_hit : ∀ (zs : List Int) (a : Int), zs.foldl min a = a ∨ zs.foldl min a ∈ zs
  | [], a => .inl rfl
  | z :: zs, a => by
    rw [List.foldl_cons]
    rcases foldl_min_hit zs (min a z) with h | h
    · rw [h]
      rcases Int.le_total a z with h1 | h1
      · exact .inl (by omega)
      · exact .inr (by rw [show min a z = z by omega]; simp)
    · exact .inr (by simp [h])
theorem kept_mem {xs : List Bond} {ys : List Int} {c z : Int} : z ∈ keptL xs ys c ↔ ∃ j : Nat, j < ys.length ∧ cashAt (flowAt xs) ys 0 (j + 1) + c = z := by
  simp only [keptL, keptTo, List.mem_map, List.mem_range]
  constructor
  · rintro ⟨j, hj, rfl⟩; exact ⟨j, hj, (cash_shift _ _ _ _).symm⟩
  · rintro ⟨j, hj, rfl⟩; exact ⟨j, hj, cash_shift _ _ _ _⟩
/-- the cash that is needed covers -/
theorem cover_at {xs : List Bond} {ys : List Int} {c : Int} (h : cashNeededP xs ys = (c, 0)) (hc : c ≤ 1000000000) : (0 ≤ c) ∧ doCoverP xs ys c = (true, 0) ∧ (0 < c → doCoverP xs ys (c - 1) = (false, 0)) := by
  unfold cashNeededP at h
  split at h
  rotate_left
  · rename_i hn; simp only [Prod.mk.injEq] at h; exact absurd h.2 hn
  rename_i hcode
  simp only [Prod.mk.injEq, and_true] at h
  obtain ⟨hb, ⟨hl, hy⟩, _⟩ := needs_ok hcode
  have hle := foldl_min_le (keptL xs ys 0) 0
  have hhit := foldl_min_hit (keptL xs ys 0) 0
  have e : (keptL xs ys 0).foldl min 0 = -c := (show leastP (keptL xs ys 0) = -c by omega)
  rw [e] at hle hhit
  have hc0 : 0 ≤ c := by have := hle.1; omega
  have hnb : needsB ys = true := by
    unfold needsCode at hcode; rw [if_pos hb] at hcode; split at hcode
    · rename_i h9; exact h9.1
    · omega
  have code : ∀ d : Int, 0 ≤ d → d ≤ 1000000000 → needsCode xs ys d = 0 := fun d h0 h1 => by
    unfold needsCode; rw [if_pos hb, if_pos ⟨hnb, inR_true.2 ⟨h0, h1⟩⟩]
  refine ⟨hc0, ?_, fun hpos => ?_⟩
  · unfold doCoverP
    rw [if_pos (code c hc0 hc)]
    have hz : leastP (keptL xs ys c) = 0 := foldl_min_zero _ fun z hz => by
      obtain ⟨j, hj, rfl⟩ := kept_mem.1 hz
      have := hle.2 _ (kept_mem.2 ⟨j, hj, rfl⟩)
      omega
    rw [hz]; rfl
  · unfold doCoverP
    rw [if_pos (code (c - 1) (by omega) (by omega))]
    rcases hhit with h9 | h9
    · omega
    · obtain ⟨j, hj, hjc⟩ := kept_mem.1 h9
      have hm : cashAt (flowAt xs) ys 0 (j + 1) + (c - 1) ∈ keptL xs ys (c - 1) := kept_mem.2 ⟨j, hj, rfl⟩
      have := (foldl_min_le (keptL xs ys (c - 1)) 0).2 _ hm
      have hne : leastP (keptL xs ys (c - 1)) ≠ 0 := by
        intro h8
        have h8' : (keptL xs ys (c - 1)).foldl min 0 = 0 := h8
        omega
      simp [hne]
end Go.Proofs.Ytlbllonpodckgaa
