/- ParseInt: the plain law, and impl's walk. Conditions: as each theorem says. -/
import Derived.Test.YtbaekalebodhaaaDoorRows
import Derived.Test.YtbaekalebodhaaaDoorRead
namespace Go.Proofs.YtbaekalebodhaaaDoor
set_option linter.unusedSimpArgs false
set_option linter.unusedVariables false
open Go.ChangeShapes Go.WideShapes Go.ChangeAt Go.RowKit Go.Joins

theorem nDigits_le : ∀ (k m : Nat), m < 10 ^ (k + 1) → Lib.nDigits m ≤ k + 1
  | 0, m, h => by rw [Lib.nDigits_small (by simpa using h)]; exact Nat.le_refl _
  | k + 1, m, h => by
    by_cases h10 : m < 10
    · rw [Lib.nDigits_small h10]; omega
    · rw [Lib.nDigits_big h10]
      have := nDigits_le k (m / 10) (Nat.div_lt_of_lt_mul (by rw [Nat.pow_succ, Nat.mul_comm] at h; exact h))
      omega
theorem decDigits_head (u : Nat) : ∃ d r, Lib.decDigits u = d :: r ∧ 48 ≤ d.toNat ∧ d.toNat ≤ 57 := by
  induction u using Nat.strongRecOn with
  | ind u ih =>
    by_cases h : u < 10
    · rw [Lib.decDigits_one h]
      refine ⟨_, _, rfl, ?_⟩
      match u, h with
      | 0, _ | 1, _ | 2, _ | 3, _ | 4, _ | 5, _ | 6, _ | 7, _ | 8, _ | 9, _ => decide
    · obtain ⟨d, r, hd, h2⟩ := ih (u / 10) (by omega)
      rw [Lib.decDigits, dif_neg h, hd]
      exact ⟨_, _, rfl, h2⟩
theorem itoa_head (n : Int) {b : UInt8} {r : List UInt8} (h : Lib.itoa n = b :: r) : b = 45 ∨ (48 ≤ b.toNat ∧ b.toNat ≤ 57) := by
  unfold Lib.itoa at h
  split at h
  · injection h with h1 h2
    exact .inl h1.symm
  · obtain ⟨d, r', hd, h2⟩ := decDigits_head n.toNat
    rw [hd] at h
    injection h with h1 _
    subst h1
    exact .inr h2
theorem itoa_len {m : Nat} (h : m ≤ 999999) : (Lib.itoa (m : Int)).length ≤ 6 := by
  rw [Lib.itoa_nonneg, Lib.decDigits_length]
  exact nDigits_le 5 m (by omega)
def tl (l : List UInt8) : List UInt8 := match l with | 45 :: c :: r => c :: r | l => l
def rdl (l : List UInt8) : Option Int :=
  if 1 ≤ (tl l).length ∧ (tl l).length ≤ 6 then
    match Lib.decFrom 0 (tl l) with
    | none => none
    | some m => if Lib.itoa (if (tl l).length < l.length then -(m : Int) else m) = l then some (if (tl l).length < l.length then -(m : Int) else m) else none
  else none
def pvl (l : List UInt8) : Option Int :=
  if l.length ≤ 7 then match Lib.atoi l with
    | none => none
    | some n => if okN n = true ∧ Lib.itoa n = l then some n else none
  else none
theorem okN_iff (n : Int) : okN n = true ↔ (-999999 ≤ n ∧ n ≤ 999999) := by simp [okN, inB]
theorem dec6 {T : List UInt8} {m : Nat} (h : Lib.decFrom 0 T = some m) (hl : T.length ≤ 6) : m ≤ 999999 := by
  have h1 := Lib.decFrom_lt T 0 m h
  have h2 : 10 ^ T.length ≤ 10 ^ 6 := Nat.pow_le_pow_right (by decide) hl
  have h3 : (10 : Nat) ^ 6 = 1000000 := by decide
  omega
theorem tl_other {b : UInt8} {r : List UInt8} (hb : b ≠ 45) : tl (b :: r) = b :: r := by
  unfold tl
  split
  · rename_i h
    injection h with h1 _
    exact absurd h1 hb
  · rfl
theorem pvl_rdl (l : List UInt8) : pvl l = rdl l := by
  match l with
  | [] => rfl
  | b :: r =>
    by_cases hb : b = 45
    · subst hb
      match r with
      | [] => rfl
      | c :: r =>
        have ht : tl (45 :: c :: r) = c :: r := rfl
        have ha : Lib.atoi (45 :: c :: r) = (Lib.decFrom 0 (c :: r)).map fun (m : Nat) => -(m : Int) := rfl
        unfold pvl rdl
        rw [ht, ha]
        by_cases hl : (c :: r).length ≤ 6
        · have h7 : (45 :: c :: r).length ≤ 7 := by simp at hl ⊢; omega
          have h1 : 1 ≤ (c :: r).length ∧ (c :: r).length ≤ 6 := ⟨by simp, hl⟩
          have hlt : (c :: r).length < (45 :: c :: r).length := by simp
          rw [if_pos h7, if_pos h1]
          cases hd : Lib.decFrom 0 (c :: r) with
          | none => rfl
          | some m =>
            have hm := dec6 hd hl
            have hk : okN (-(m : Int)) = true := (okN_iff _).2 (by omega)
            simp only [Option.map_some, if_pos hlt, hk, true_and]
        · have h7 : ¬ (45 :: c :: r).length ≤ 7 := by simp at hl ⊢; omega
          rw [if_neg h7, if_neg (fun h => hl h.2)]
    · have ht := tl_other (r := r) hb
      unfold pvl rdl
      rw [ht]
      simp only [Nat.lt_irrefl, if_false]
      by_cases hp : b = 43
      · subst hp
        have hdn : Lib.decFrom 0 (43 :: r) = none := rfl
        have hno : ∀ n, Lib.itoa n ≠ 43 :: r := fun n h => by
          rcases itoa_head n h with h1 | h1
          · exact absurd h1 (by decide)
          · exact absurd h1.1 (by decide)
        rw [hdn]
        simp only [hno, and_false, if_false]
        split
        · split <;> (split <;> rfl)
        · split <;> rfl
      · have ha : Lib.atoi (b :: r) = (Lib.decFrom 0 (b :: r)).map fun (m : Nat) => (m : Int) := by
          show (if (b == 45) = true then _ else if (b == 43) = true then _ else Option.map _ (Lib.decNat (b :: r))) = _
          rw [if_neg (by simpa using hb), if_neg (by simpa using hp)]
          rfl
        rw [ha]
        by_cases hl : (b :: r).length ≤ 6
        · have h7 : (b :: r).length ≤ 7 := by omega
          have h1 : 1 ≤ (b :: r).length ∧ (b :: r).length ≤ 6 := ⟨by simp, hl⟩
          rw [if_pos h7, if_pos h1]
          cases hd : Lib.decFrom 0 (b :: r) with
          | none => rfl
          | some m =>
            have hm := dec6 hd hl
            have hk : okN (m : Int) = true := (okN_iff _).2 (by omega)
            simp only [Option.map_some, hk, true_and]
        · rw [if_neg (c := 1 ≤ _ ∧ _) (fun h => hl h.2)]
          split
          · cases hd : Lib.decFrom 0 (b :: r) with
            | none => rfl
            | some m =>
              simp only [Option.map_some]
              rw [if_neg]
              rintro ⟨hk, he⟩
              have := (okN_iff _).1 hk
              have h6 := itoa_len (m := m) (by omega)
              rw [he] at h6
              exact hl h6
          · rfl
theorem bare_tl (s : ByteArray) : (bare s).data.toList = tl s.data.toList := by
  obtain ⟨⟨l⟩⟩ := s
  unfold bare
  match l with
  | [] => rfl
  | [b] =>
    rw [dif_neg (by simp [ByteArray.size])]
    unfold tl
    split
    · rename_i h; cases h
    · rfl
  | b :: c :: r =>
    rw [dif_pos (by simp [ByteArray.size])]
    by_cases hb : b = 45
    · subst hb
      split
      · rw [Lib.extract_data]
        simp [ByteArray.size, tl]
      · rename_i h; exact absurd rfl h
    · split
      · rename_i h; exact absurd (UInt8.toNat_inj.1 (show b.toNat = (45 : UInt8).toNat from h)) hb
      · rw [tl_other hb]
theorem numS_iff (n : Int) (s : ByteArray) : numS n = s ↔ Lib.itoa n = s.data.toList := by
  constructor
  · intro h
    rw [← h]
    simp [numS]
  · intro h
    apply ba_ext
    simpa [numS] using h
theorem rd_rdl (s : ByteArray) : rd s = rdl s.data.toList := by
  have hb := bare_tl s
  have h1 : (bare s).size = (tl s.data.toList).length := by rw [← hb]; simp
  have h2 : s.size = s.data.toList.length := by simp
  unfold rd rdl
  rw [hb, h1, h2]
  split
  · cases Lib.decFrom 0 (tl s.data.toList) with
    | none => rfl
    | some m =>
      simp only
      by_cases h : Lib.itoa (if (tl s.data.toList).length < s.data.toList.length then -(m : Int) else m) = s.data.toList
      · rw [if_pos h, if_pos ((numS_iff _ _).2 h)]
      · rw [if_neg h, if_neg (fun e => h ((numS_iff _ _).1 e))]
  · rfl
def pv (s : ByteArray) : Option Int := pvl s.data.toList
theorem rd_pv (s : ByteArray) : rd s = pv s := by rw [rd_rdl, ← pvl_rdl]; rfl
theorem pv_long {s : ByteArray} (h : ¬ s.size ≤ 7) : pv s = none := by
  unfold pv pvl
  rw [if_neg (by simpa using h)]
theorem pv_bad {s : ByteArray} (h : Lib.atoi s.data.toList = none) : pv s = none := by
  unfold pv pvl
  rw [h]
  split <;> rfl
theorem pv_good {s : ByteArray} {n : Int} (hl : s.size ≤ 7) (h : Lib.atoi s.data.toList = some n) (hk : okN n = true) (hq : numS n = s) : pv s = some n := by
  unfold pv pvl
  rw [if_pos (by simpa using hl), h]
  exact if_pos ⟨hk, (numS_iff _ _).1 hq⟩
theorem pv_off {s : ByteArray} {n : Int} (hl : s.size ≤ 7) (h : Lib.atoi s.data.toList = some n) (hk : ¬ (okN n = true ∧ numS n = s)) : pv s = none := by
  unfold pv pvl
  rw [if_pos (by simpa using hl), h]
  exact if_neg (fun h2 => hk ⟨h2.1, (numS_iff _ _).2 h2.2⟩)
theorem spec_ParseInt (s : ByteArray) (hs : s.size ≤ 1048576) (w : World) : Calls Tryd.prog 8 #[.string s] w (RetI s w) := by
  have HR := Lib.hid (spec_l1Read s hs w)
  go_enter Tryd.func8, Tryd.ntmps8
  go_wp2_with fail
  refine (HR.out).mono ?_
  rintro e w1 ⟨rfl, hb1⟩
  clear HR
  go_wp2
  go_ret2
  exact ⟨rfl, hb1⟩
theorem impl_ParseInt (s : ByteArray) (hs : s.size ≤ 1048576) (w : World) (ht : Tab w) (hr : Er w) : Calls Tryd.prog 9 #[.string s] w (RetI s w) := by
  have HP := Lib.hid (rd_pv s)
  by_cases hl : s.size ≤ 7
  · cases ha : Lib.atoi s.data.toList with
    | none =>
      have HN : Hid (rd s = none) := Lib.hid (by rw [HP.out, pv_bad ha])
      obtain ⟨tp, p, hv⟩ := hr
      have HC := Lib.hid (Tryd.strconv_Atoi_err_var s (by omega) ha tp p w hv)
      clear ha hv ht HP
      go_enter Tryd.func9, Tryd.ntmps9
      go_wp2_with fail
      refine (HC.out).mono ?_
      rintro e w1 ⟨N, rfl, hN, hh, hb1⟩
      go_wp2
      go_ret2
      exact retI_none HN.out rfl hb1
    | some n =>
      have HC := Lib.hid (Tryd.strconv_Atoi s n (by omega) ha w)
      have HT := Lib.hid (fun w' h => ht.below (w' := w') h)
      cases hk : okN n
      · have HN : Hid (rd s = none) := Lib.hid (by rw [HP.out, pv_off hl ha (by rw [hk]; simp)])
        have hk' : inB (-999999) n 999999 = false := hk
        clear ha hr ht HP
        go_enter Tryd.func9, Tryd.ntmps9
        go_wp2_with fail
        refine (HC.out).mono ?_
        rintro e w1 ⟨rfl, t, rfl⟩
        go_wp2_with (go_at_call 23; refine (impl_inside _ _ _ _).mono ?_; rintro e w' ⟨rfl, rfl⟩)
        go_ret2
        exact retI_none HN.out rfl (Lib.bytesWorld_below _ _ _)
      · have HI := Lib.hid (fun w' h => strconv_Itoa_b n hk w' (HT.out w' h))
        have hk' : inB (-999999) n 999999 = true := hk
        by_cases hq : numS n = s
        · have HN : Hid (rd s = some n) := Lib.hid (by rw [HP.out, pv_good hl ha hk hq])
          rw [hq] at HI
          clear ha hr ht HP HT hq
          go_enter Tryd.func9, Tryd.ntmps9
          go_wp2_with fail
          refine (HC.out).mono ?_
          rintro e w1 ⟨rfl, t, hw⟩
          have hb1 : Below w.heap.size w w1 := by rw [hw]; exact Lib.bytesWorld_below _ _ _
          clear hw
          go_wp2_with (first | (go_at_call 23; refine (impl_inside _ _ _ _).mono ?_; rintro e w' ⟨rfl, rfl⟩) | (go_at_call 24; refine (HI.out _ hb1).mono ?_; rintro e w2 ⟨rfl, hb2⟩))
          all_goals go_ret2
          all_goals exact retI_some HN.out rfl (bstep hb1 (by assumption))
        · have HN : Hid (rd s = none) := Lib.hid (by rw [HP.out, pv_off hl ha (fun h => hq h.2)])
          have hn := ne_list hq
          generalize numS n = t at *
          clear ha hr ht HP HT hq
          go_enter Tryd.func9, Tryd.ntmps9
          go_wp2_with fail
          refine (HC.out).mono ?_
          rintro e w1 ⟨rfl, t', hw⟩
          have hb1 : Below w.heap.size w w1 := by rw [hw]; exact Lib.bytesWorld_below _ _ _
          clear hw
          go_wp2_with (first | (go_at_call 23; refine (impl_inside _ _ _ _).mono ?_; rintro e w' ⟨rfl, rfl⟩) | (go_at_call 24; refine (HI.out _ hb1).mono ?_; rintro e w2 ⟨rfl, hb2⟩))
          all_goals first | (exfalso; simp_all; done) | skip
          all_goals go_ret2
          all_goals exact retI_none HN.out rfl (bstep hb1 (by assumption))
  · have HN : Hid (rd s = none) := Lib.hid (by rw [HP.out, pv_long hl])
    clear ht hr HP
    go_enter Tryd.func9, Tryd.ntmps9
    go_wp2
    go_ret2
    exact retI_none HN.out rfl (Below.refl _ _)
end Go.Proofs.YtbaekalebodhaaaDoor
