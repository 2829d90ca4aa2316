/- A sealed text is verified; with one byte turned it is not; a number's text reads as the number. Conditions: as each theorem says. -/
import Derived.Test.YtbaekalebodhaaaDoorRows
import Derived.Test.YtbaekalebodhaaaDoorSeal3
import Derived.Test.YtbaekalebodhaaaDoorRead2
namespace Go.Proofs.YtbaekalebodhaaaDoor
set_option linter.unusedSimpArgs false
set_option linter.unusedVariables false
open Go.ChangeShapes Go.WideShapes Go.ChangeAt Go.RowKit Go.Joins

theorem decFrom_snoc (b : UInt8) (d : Nat) (hb : Lib.digitVal b = some d) : ∀ (l : List UInt8) (acc m : Nat), Lib.decFrom acc l = some m → Lib.decFrom acc (l ++ [b]) = some (m * 10 + d)
  | [], acc, m, h => by
    have : acc = m := Option.some.inj h
    subst this
    show Lib.decFrom acc [b] = _
    unfold Lib.decFrom
    rw [hb]
    rfl
  | c :: l, acc, m, h => by
    show Lib.decFrom acc (c :: (l ++ [b])) = _
    unfold Lib.decFrom at h ⊢
    cases hc : Lib.digitVal c with
    | none => rw [hc] at h; cases h
    | some e =>
      rw [hc] at h
      exact decFrom_snoc b d hb l _ m h
theorem digitVal_of {u : Nat} (h : u < 10) : Lib.digitVal (UInt8.ofNat (48 + u)) = some u := by
  match u, h with
  | 0, _ | 1, _ | 2, _ | 3, _ | 4, _ | 5, _ | 6, _ | 7, _ | 8, _ | 9, _ => rfl
theorem decFrom_digits (u : Nat) : Lib.decFrom 0 (Lib.decDigits u) = some u := by
  induction u using Nat.strongRecOn with
  | ind u ih =>
    by_cases h : u < 10
    · rw [Lib.decDigits_one h]
      have := decFrom_snoc _ u (digitVal_of h) [] 0 0 rfl
      simpa using this
    · rw [Lib.decDigits, dif_neg h]
      have := decFrom_snoc _ (u % 10) (digitVal_of (Nat.mod_lt _ (by decide))) _ 0 _ (ih (u / 10) (by omega))
      rw [this]
      congr 1
      omega
theorem atoi_itoa (n : Int) : Lib.atoi (Lib.itoa n) = some n := by
  by_cases hn : n < 0
  · obtain ⟨k, rfl⟩ : ∃ k : Nat, n = -(k : Int) := ⟨n.natAbs, by omega⟩
    rw [Lib.itoa_neg k (by omega)]
    obtain ⟨d, r, hd, _⟩ := decDigits_head k
    have h := decFrom_digits k
    show (Lib.decNat (Lib.decDigits k)).map _ = _
    unfold Lib.decNat
    rw [if_neg (by rw [hd]; simp), h]
    rfl
  · obtain ⟨k, rfl⟩ : ∃ k : Nat, n = (k : Int) := ⟨n.toNat, by omega⟩
    rw [Lib.itoa_nonneg]
    obtain ⟨d, r, hd, h48, h57⟩ := decDigits_head k
    have h := decFrom_digits k
    rw [hd] at h ⊢
    have n45 : d ≠ 45 := fun e => by subst e; exact absurd h48 (by decide)
    have n43 : d ≠ 43 := fun e => by subst e; exact absurd h48 (by decide)
    show (if (d == 45) = true then _ else if (d == 43) = true then _ else Option.map _ (Lib.decNat (d :: r))) = _
    rw [if_neg (by simpa using n45), if_neg (by simpa using n43)]
    unfold Lib.decNat
    rw [if_neg (by simp), h]
    rfl
theorem itoa_inj {a b : Int} (h : Lib.itoa a = Lib.itoa b) : a = b := by
  have := atoi_itoa a
  rw [h, atoi_itoa b] at this
  exact (Option.some.inj this).symm
theorem itoa_len7 {n : Int} (h : okN n = true) : (Lib.itoa n).length ≤ 7 := by
  have hb := (okN_iff n).1 h
  by_cases hn : n < 0
  · obtain ⟨k, rfl⟩ : ∃ k : Nat, n = -(k : Int) := ⟨n.natAbs, by omega⟩
    rw [Lib.itoa_neg k (by omega)]
    have := itoa_len (m := k) (by omega)
    rw [Lib.itoa_nonneg] at this
    simp
    omega
  · obtain ⟨k, rfl⟩ : ∃ k : Nat, n = (k : Int) := ⟨n.toNat, by omega⟩
    have := itoa_len (m := k) (by omega)
    omega
theorem rd_numS {n : Int} (h : okN n = true) : rd (numS n) = some n := by
  have hl : (numS n).data.toList = Lib.itoa n := by simp [numS]
  rw [rd_pv]
  have := itoa_len7 h
  exact pv_good (by rw [← hl] at this; simpa using this) (by rw [hl]; exact atoi_itoa n) h rfl
/-! ### the seal -/
theorem itoa_no35 (n : Int) (b : UInt8) (hb : b ∈ Lib.itoa n) : b ≠ 35 := by
  have key : ∀ u : Nat, ∀ b ∈ Lib.decDigits u, b ≠ 35 := by
    intro u b hb
    obtain ⟨k, hk⟩ := List.getElem?_of_mem hb
    obtain ⟨d, hd⟩ := Lib.digit_of_decFrom _ _ _ (decFrom_digits u) k b hk
    rintro rfl
    cases hd
  unfold Lib.itoa at hb
  split at hb
  · rcases List.mem_cons.1 hb with h | h
    · rw [h]; decide
    · exact key _ b h
  · exact key _ b hb
def sealL (T : List UInt8) : List UInt8 := T ++ 35 :: Lib.itoa (csl 7 T)
theorem sealS_data (s : ByteArray) : (sealS s).data.toList = sealL s.data.toList := by
  unfold sealS sealL numS csum
  simp
theorem csl_ne (l : List UInt8) : ∀ h h' : Int, 0 ≤ h → h < 999979 → 0 ≤ h' → h' < 999979 → h ≠ h' → csl h l ≠ csl h' l := by
  induction l with
  | nil => intro h h' _ _ _ _ hn; exact hn
  | cons b l ih =>
    intro h h' h0 h1 h0' h1' hn
    refine ih _ _ (Int.emod_nonneg _ (by decide)) (Int.emod_lt_of_pos _ (by decide)) (Int.emod_nonneg _ (by decide)) (Int.emod_lt_of_pos _ (by decide)) ?_
    omega
theorem csl_set (c : UInt8) : ∀ (l : List UInt8) (k : Nat) (h : Int) (b : UInt8), l[k]? = some b → c ≠ b → 0 ≤ h → h < 999979 → csl h (l.set k c) ≠ csl h l
  | [], k, h, b, hk, _, _, _ => by simp at hk
  | a :: l, 0, h, b, hk, hc, h0, h1 => by
    have hab : a = b := by simpa using hk
    subst hab
    refine csl_ne l _ _ (Int.emod_nonneg _ (by decide)) (Int.emod_lt_of_pos _ (by decide)) (Int.emod_nonneg _ (by decide)) (Int.emod_lt_of_pos _ (by decide)) ?_
    have h2 := c.toNat_lt
    have h3 := a.toNat_lt
    have h4 : c.toNat ≠ a.toNat := fun e => hc (UInt8.toNat_inj.1 e)
    omega
  | a :: l, k + 1, h, b, hk, hc, h0, h1 => csl_set c l k _ b (by simpa using hk) hc (Int.emod_nonneg _ (by decide)) (Int.emod_lt_of_pos _ (by decide))
def hdL (l : List UInt8) : List UInt8 := l.takeWhile (· != 35)
theorem hdL_app (X D : List UInt8) (h : ∀ b ∈ X, b ≠ 35) : hdL (X ++ 35 :: D) = X := (tw_clean 35 X D (by rw [List.any_eq_false]; intro b hb; simpa using h b hb)).1
theorem hdL_no (L : List UInt8) : ∀ b ∈ hdL L, b ≠ 35 := by
  have := hdS_clean ⟨L.toArray⟩
  intro b hb e
  subst e
  unfold stands at this
  rw [List.any_eq_false] at this
  exact this 35 (by simpa [HdS, hdL] using hb) rfl
theorem count_seal {T : List UInt8} (h : ∀ b ∈ T, b ≠ 35) : (sealL T).count 35 = 1 := by
  unfold sealL
  rw [List.count_append, List.count_cons_self, List.count_eq_zero.2 (fun hm => h _ hm rfl), List.count_eq_zero.2 (fun hm => itoa_no35 _ _ hm rfl)]
theorem tampered (X : List UInt8) (hX : ∀ b ∈ X, b ≠ 35) (k : Nat) (b c : UInt8) (hk : (sealL X)[k]? = some b) (hc : c ≠ b) : sealL (hdL ((sealL X).set k c)) ≠ (sealL X).set k c := by
  intro he
  have h1 : ((sealL X).set k c).count 35 = 1 := by rw [← he]; exact count_seal (hdL_no _)
  by_cases h2 : k < X.length
  · have hs : (sealL X).set k c = X.set k c ++ 35 :: Lib.itoa (csl 7 X) := by unfold sealL; rw [List.set_append_left _ _ h2]
    have hkX : X[k]? = some b := by unfold sealL at hk; rwa [List.getElem?_append_left h2] at hk
    by_cases hc5 : c = 35
    · subst hc5
      rw [hs, List.count_append, List.count_cons_self] at h1
      have : 0 < (X.set k 35).count 35 := List.count_pos_iff.2 (List.mem_of_getElem? (i := k) (List.getElem?_set_self h2))
      omega
    · have hn : ∀ d ∈ X.set k c, d ≠ 35 := fun d hd => by
        rcases List.mem_or_eq_of_mem_set hd with h | h
        · exact hX d h
        · rw [h]; exact hc5
      rw [hs, hdL_app _ _ hn] at he
      unfold sealL at he
      have := List.append_cancel_left he
      injection this with _ this
      exact csl_set c X k 7 b hkX hc (by decide) (by decide) (itoa_inj this)
  · by_cases h3 : k = X.length
    · subst h3
      have hb : b = 35 := by unfold sealL at hk; simpa using hk.symm
      have hs : (sealL X).set X.length c = X ++ c :: Lib.itoa (csl 7 X) := by unfold sealL; rw [List.set_append_right _ _ (Nat.le_refl _)]; simp
      rw [hs, List.count_append, List.count_cons_of_ne (by intro e; exact hc (by rw [hb]; exact (by simpa using e))), List.count_eq_zero.2 (fun hm => hX _ hm rfl), List.count_eq_zero.2 (fun hm => itoa_no35 _ _ hm rfl)] at h1
      omega
    · have hs : ∃ D, (sealL X).set k c = X ++ 35 :: D := by
        unfold sealL
        rw [List.set_append_right _ _ (by omega)]
        obtain ⟨j, hj⟩ : ∃ j, k - X.length = j + 1 := ⟨k - X.length - 1, by omega⟩
        rw [hj]
        exact ⟨_, rfl⟩
      obtain ⟨D, hD⟩ := hs
      have hh : hdL ((sealL X).set k c) = X := by rw [hD]; exact hdL_app X D hX
      rw [hh] at he
      have hlt : k < (sealL X).length := (List.getElem?_eq_some_iff.1 hk).1
      have : ((sealL X).set k c)[k]? = some c := List.getElem?_set_self hlt
      rw [← he, hk] at this
      exact hc (Option.some.inj this).symm
theorem hdS_data (s : ByteArray) : (HdS s).data.toList = hdL s.data.toList := by simp [HdS, hdL]
theorem clean_mem {x : ByteArray} (h : stands x 35 = false) : ∀ b ∈ x.data.toList, b ≠ 35 := by
  unfold stands at h
  rw [List.any_eq_false] at h
  intro b hb e
  exact h b hb (by simpa using e)
theorem okSeal_parts {x : ByteArray} (h : okSeal x = true) : stands x 35 = false ∧ (sealS x).size ≤ 4000 := by
  unfold okSeal at h
  simp at h
  exact ⟨h.2.1, h.2.2⟩
theorem ver_sealed {x : ByteArray} (h : okSeal x = true) : okVer (sealS x) = true ∧ verV (sealS x) = x := by
  obtain ⟨h1, h2⟩ := okSeal_parts h
  have hh : HdS (sealS x) = x := by
    apply ba_ext
    rw [hdS_data, sealS_data]
    exact hdL_app _ _ (clean_mem h1)
  have hk : okVer (sealS x) = true := by unfold okVer; rw [hh]; simp [h2]
  exact ⟨hk, by rw [verV_yes hk, hh]⟩
theorem ver_tampered {x y : ByteArray} (h : okSeal x = true) (k : Nat) (b c : UInt8) (hk : (sealS x).data.toList[k]? = some b) (hc : c ≠ b) (hy : y.data.toList = (sealS x).data.toList.set k c) : okVer y = false := by
  obtain ⟨h1, h2⟩ := okSeal_parts h
  unfold okVer
  have : sealS (HdS y) ≠ y := fun e => by
    have e2 := congrArg (·.data.toList) e
    simp only [sealS_data, hdS_data] at e2
    rw [hy, sealS_data] at e2
    rw [sealS_data] at hk
    exact tampered _ (clean_mem h1) k b c hk hc e2
  simp [this]
end Go.Proofs.YtbaekalebodhaaaDoor
