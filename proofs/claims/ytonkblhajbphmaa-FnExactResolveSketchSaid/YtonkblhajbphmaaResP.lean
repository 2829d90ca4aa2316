/- Sketches resolved: plain definitions. No program in sight. Conditions: as each theorem says. -/
import Derived.Test.YtonkblhajbphmaaSkC
import Derived.Test.YtonkblhajbphmaaTlist
namespace Go.Proofs.Ytonkblhajbphmaa
set_option linter.unusedSimpArgs false
set_option linter.unusedVariables false
open Go.RowKit

theorem fstL_mem : ∀ (xs acc : List Int) (y : Int), y ∈ fstL acc xs → y ∈ acc ∨ y ∈ xs
  | [], acc, y, h => .inl (by simpa [fstL] using h)
  | x :: xs, acc, y, h => by
    unfold fstL at h
    split at h
    · rcases fstL_mem xs _ y h with h | h
      · exact .inl h
      · exact .inr (List.mem_cons_of_mem _ h)
    · rcases fstL_mem xs _ y h with h | h
      · rcases List.mem_append.1 h with h | h
        · exact .inl h
        · exact .inr (by simp at h; simp [h])
      · exact .inr (List.mem_cons_of_mem _ h)
/-- The tincture of a slot, if it exists; 0 for what is left out. -/
def stT (a : AV) (M : List Int) (s : SV) : Option Int :=
  if s.m = 1 then some s.n else if s.m = 2 then (if a.f.d = 0 then some a.f.a else none)
  else if s.m = 3 then (if s.n ≤ ((fstL [] M).length : Int) then some ((fstL [] M).getD (s.n - 1).toNat 0) else none)
  else if s.m = 4 then some (M.getD (M.length - 1) 0) else some 0
def stM (M : List Int) (s : SV) (t : Int) : List Int := if s.m = 5 then M else M ++ [t]
/-- What the first k slots mention, and what they stand for. -/
def stK (a : AV) (ss : List SV) : Nat → Option (List Int × List Int)
  | 0 => some (a.ft, [])
  | k + 1 => match stK a ss k with
    | none => none
    | some p => match stT a p.1 (ss.getD k SV.z) with
      | none => none
      | some t => some (stM p.1 (ss.getD k SV.z) t, p.2 ++ [t])
theorem stK_next {a : AV} {ss : List SV} {k : Nat} {M O : List Int} {t : Int} (h : stK a ss k = some (M, O)) (ht : stT a M (ss.getD k SV.z) = some t) : stK a ss (k + 1) = some (stM M (ss.getD k SV.z) t, O ++ [t]) := by
  simp only [stK, h, ht]
theorem stK_stop {a : AV} {ss : List SV} {k : Nat} {M O : List Int} (h : stK a ss k = some (M, O)) (ht : stT a M (ss.getD k SV.z) = none) : stK a ss (k + 1) = none := by
  simp only [stK, h, ht]
theorem stK_none {a : AV} {ss : List SV} {k n : Nat} (h : stK a ss k = none) (hn : k ≤ n) : stK a ss n = none := by
  induction n with
  | zero =>
    obtain rfl : k = 0 := by omega
    exact h
  | succ n ih =>
    rcases Nat.eq_or_lt_of_le hn with rfl | hlt
    · exact h
    · simp only [stK, ih (by omega)]
/-- What holds of them where the arms and the slots are valid. -/
structure StInv (ss : List SV) (k : Nat) (M O : List Int) : Prop where
  pos : ∀ y ∈ M, 0 < y
  some_ : 0 < M.length
  short : M.length ≤ 2 + k
  len : O.length = k
  zero : ∀ i, i < k → ((O.getD i 0 = 0) ↔ (ss.getD i SV.z).m = 5)
theorem ft_pos {a : AV} (h : a.ok = true) : (∀ y ∈ a.ft, 0 < y) ∧ 0 < a.ft.length ∧ 0 < a.f.a := by
  unfold AV.ok FV.ok fieldOk at h
  simp only [Bool.and_eq_true] at h
  obtain ⟨⟨_, _, h1, h2⟩, _⟩ := h
  have h1' := (inB_true.1 h1).1
  unfold AV.ft ftL
  by_cases hd : a.f.d = 0
  · rw [if_pos hd]
    exact ⟨by simp; omega, by simp, by omega⟩
  · rw [if_neg hd]
    have hd' : (a.f.d == 0) = false := by simpa using hd
    rw [hd'] at h2
    simp only [Bool.false_eq_true, if_false, Bool.and_eq_true] at h2
    have h3 := (inB_true.1 h2.1).1
    exact ⟨by simp; omega, by simp, by omega⟩
theorem getD_mem {xs : List Int} {i : Nat} (h : i < xs.length) : xs.getD i 0 ∈ xs := by simp [List.getD_eq_getElem?_getD, h]
theorem stT_sign {a : AV} {M : List Int} {s : SV} {t : Int} (ha : 0 < a.f.a) (hM : ∀ y ∈ M, 0 < y) (h0 : 0 < M.length) (hs : slotOk s = true) (ht : stT a M s = some t) : (s.m = 5 → t = 0) ∧ (s.m ≠ 5 → 0 < t) := by
  unfold stT at ht
  unfold slotOk at hs
  by_cases h1 : s.m = 1
  · rw [if_pos h1] at ht hs
    injection ht with ht
    have := inB_true.1 hs
    exact ⟨fun h => by omega, fun _ => by omega⟩
  rw [if_neg h1] at ht hs
  by_cases h2 : s.m = 2
  · rw [if_pos h2] at ht
    split at ht
    · injection ht with ht
      exact ⟨fun h => by omega, fun _ => by omega⟩
    · cases ht
  rw [if_neg h2] at ht
  by_cases h3 : s.m = 3
  · rw [if_pos h3] at ht hs
    split at ht
    · injection ht with ht
      have h5 := inB_true.1 hs
      have hlt : (s.n - 1).toNat < (fstL [] M).length := by omega
      have hm := fstL_mem M [] _ (getD_mem hlt)
      refine ⟨fun h => by omega, fun _ => ?_⟩
      rw [← ht]
      rcases hm with hm | hm
      · cases hm
      · exact hM _ hm
    · cases ht
  rw [if_neg h3] at ht
  by_cases h4 : s.m = 4
  · rw [if_pos h4] at ht
    injection ht with ht
    refine ⟨fun h => by omega, fun _ => ?_⟩
    rw [← ht]
    exact hM _ (getD_mem (by omega))
  rw [if_neg h4] at ht
  injection ht with ht
  rw [if_neg h3] at hs
  simp only [Bool.and_eq_true] at hs
  have := inB_true.1 hs.1
  exact ⟨fun _ => ht.symm, fun h => by omega⟩
theorem inv_zero {a : AV} {ss : List SV} (h : a.ok = true) : StInv ss 0 a.ft [] := ⟨(ft_pos h).1, (ft_pos h).2.1, by have := ft_len a; omega, rfl, fun i hi => absurd hi (Nat.not_lt_zero _)⟩
theorem inv_next {a : AV} {ss : List SV} {k : Nat} {M O : List Int} {t : Int} (h : a.ok = true) (hI : StInv ss k M O) (hs : slotOk (ss.getD k SV.z) = true) (ht : stT a M (ss.getD k SV.z) = some t) : StInv ss (k + 1) (stM M (ss.getD k SV.z) t) (O ++ [t]) := by
  obtain ⟨h5, hn5⟩ := stT_sign (ft_pos h).2.2 hI.pos hI.some_ hs ht
  have hz : ∀ i, i < k + 1 → (((O ++ [t]).getD i 0 = 0) ↔ (ss.getD i SV.z).m = 5) := fun i hi => by
    have hl := hI.len
    rcases Nat.lt_or_ge i k with hlt | hge
    · rw [show (O ++ [t]).getD i 0 = O.getD i 0 by simp [List.getD_eq_getElem?_getD, List.getElem?_append_left (show i < O.length by omega)]]
      exact hI.zero i hlt
    · obtain rfl : i = k := by omega
      rw [show (O ++ [t]).getD i 0 = t by rw [← hl]; simp [List.getD_eq_getElem?_getD]]
      exact ⟨fun e => by
        rw [← Classical.not_not (a := (ss.getD i SV.z).m = 5)]
        intro hne
        have := hn5 hne
        omega, h5⟩
  have hl := hI.len
  unfold stM
  by_cases hm : (ss.getD k SV.z).m = 5
  · rw [if_pos hm]
    exact ⟨hI.pos, hI.some_, by have := hI.short; omega, by simp [hl], hz⟩
  · rw [if_neg hm]
    refine ⟨fun y hy => ?_, by simp, by have := hI.short; simp; omega, by simp [hl], hz⟩
    rcases List.mem_append.1 hy with hy | hy
    · exact hI.pos y hy
    · simp at hy
      subst hy
      exact hn5 hm
/-! ### what is left out takes the next -/
def nxC (c : Nat → Bool) (O : List Int) : Nat → List Int
  | 0 => O
  | j + 1 => if c (O.length - 2 - j) then (nxC c O j).set (O.length - 2 - j) ((nxC c O j).getD (O.length - 2 - j + 1) 0) else nxC c O j
theorem nxC_len (c : Nat → Bool) (O : List Int) (j : Nat) : (nxC c O j).length = O.length := by
  induction j with
  | zero => rfl
  | succ j ih => unfold nxC; split <;> simp [ih]
theorem nxC_old (c : Nat → Bool) (O : List Int) (j i : Nat) (h : i + j + 1 < O.length) : (nxC c O j).getD i 0 = O.getD i 0 := by
  induction j with
  | zero => rfl
  | succ j ih =>
    unfold nxC
    split
    · rw [← ih (by omega)]
      simp only [List.getD_eq_getElem?_getD]
      rw [List.getElem?_set_ne (by omega)]
    · exact ih (by omega)
theorem nxC_same (c c' : Nat → Bool) (O : List Int) (j : Nat) (hj : j + 1 ≤ O.length) (h : ∀ i, i + 1 < O.length → c i = c' i) : nxC c O j = nxC c' O j := by
  induction j with
  | zero => rfl
  | succ j ih =>
    unfold nxC
    rw [ih (by omega), h _ (by omega)]
def nx (O : List Int) : List Int := nxC (fun i => O.getD i 0 == 0) O (O.length - 1)
theorem nx_len (O : List Int) : (nx O).length = O.length := nxC_len _ _ _
theorem nx_slots {ss : List SV} {M O : List Int} (hI : StInv ss ss.length M O) : nxC (fun i => (ss.getD i SV.z).m == 5) O (O.length - 1) = nx O := by
  unfold nx
  by_cases h0 : O.length = 0
  · rw [h0]; rfl
  · refine nxC_same _ _ O _ (by omega) fun i hi => ?_
    have := hI.zero i (by have := hI.len; omega)
    rw [Bool.eq_iff_iff, beq_iff_eq, beq_iff_eq]
    exact this.symm
/-- The arms of a sketch, if it can be resolved. -/
def resO (a : AV) (ss : List SV) : Option AV := if skOk a ss then (stK a ss ss.length).map fun p => a.fill (nx p.2) else none
def resA (a : AV) (ss : List SV) : AV := (resO a ss).getD AV.none
def resB (a : AV) (ss : List SV) : Bool := (resO a ss).isSome
theorem res_bad {a : AV} {ss : List SV} (h : skOk a ss = false) : resA a ss = AV.none ∧ resB a ss = false := by
  unfold resA resB resO
  rw [h]
  exact ⟨rfl, rfl⟩
theorem res_stop {a : AV} {ss : List SV} (h : stK a ss ss.length = none) : resA a ss = AV.none ∧ resB a ss = false := by
  unfold resA resB resO
  rw [h]
  split <;> exact ⟨rfl, rfl⟩
theorem res_good {a : AV} {ss : List SV} {M O : List Int} (h : skOk a ss = true) (hs : stK a ss ss.length = some (M, O)) : resA a ss = a.fill (nx O) ∧ resB a ss = true := by
  unfold resA resB resO
  rw [h, hs]
  exact ⟨rfl, rfl⟩
theorem skOk_parts {a : AV} {ss : List SV} (h : skOk a ss = true) : a.ok = true ∧ ss.length = a.places.length ∧ ∀ k, k < ss.length → slotOk (ss.getD k SV.z) = true := by
  unfold skOk at h
  simp only [Bool.and_eq_true] at h
  obtain ⟨h1, _, h3, h4, _⟩ := h
  refine ⟨h1, by simpa using h3, fun k hk => ?_⟩
  have := List.all_eq_true.1 h4 (ss.getD k SV.z) (by simp [List.getD_eq_getElem?_getD, hk])
  exact this
end Go.Proofs.Ytonkblhajbphmaa
