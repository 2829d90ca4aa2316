/- Lists of integers compared; differences of fields. Conditions: as each theorem says. -/
import Derived.Test.YtmemabeackgioaaRows
import Derived.Test.YtmemabeackgioaaCons
import Derived.Test.YtmemabeackgioaaGdiff
namespace Go.Proofs.Ytmemabeackgioaa
set_option linter.unusedSimpArgs false
set_option linter.unusedVariables false
open Go.ChangeShapes Go.WideShapes Go.ChangeAt Go.RowKit

def sameI (xs ys : List Int) : Bool := decide (xs = ys)
theorem sameI_step (xs ys : List Int) (k : Nat) (h : k < xs.length) (h' : k < ys.length) : sameI (xs.drop k) (ys.drop k) = (xs.getD k 0 == ys.getD k 0 && sameI (xs.drop (k + 1)) (ys.drop (k + 1))) := by
  have e : xs.getD k 0 = xs[k] := by simp [List.getD_eq_getElem?_getD, h]
  have e' : ys.getD k 0 = ys[k] := by simp [List.getD_eq_getElem?_getD, h']
  rw [List.drop_eq_getElem_cons h, List.drop_eq_getElem_cons h', e, e']
  unfold sameI
  rw [Bool.eq_iff_iff]
  simp only [Bool.and_eq_true, decide_eq_true_eq, beq_iff_eq, List.cons.injEq]
theorem sameI_len {xs ys : List Int} (h : xs.length ≠ ys.length) : sameI xs ys = false := by
  unfold sameI
  rw [decide_eq_false_iff_not]
  exact fun e => h (by rw [e])
theorem sameI_end {xs ys : List Int} {k : Nat} (h : xs.length ≤ k) (h' : ys.length ≤ k) : sameI (xs.drop k) (ys.drop k) = true := by
  rw [List.drop_of_length_le h, List.drop_of_length_le h']
  rfl
theorem spec_l1Same (A A' : Option Addr) (n n' c c' : Nat) (xs ys : List Int) (w : World) (hn : n = xs.length) (hn' : n' = ys.length) (hl : xs.length ≤ maxLen) (hr : Reads w A xs) (hr' : Reads w A' ys) :
    Calls Try.prog 94 #[.slice A n c, .slice A' n' c'] w fun e w' => e = .returned (.bool (sameI xs ys)) ∧ Below w.heap.size w w' := by
  subst hn hn'
  by_cases hz : xs.length = ys.length
  · have HZ := Lib.hid hz
    rw [← hz]
    unfold maxLen at hl
    have HR := Lib.hid hr
    have HR' := Lib.hid hr'
    clear hr hr' hz
    go_enter Try.func94, Try.ntmps94
    go_wp2
    go_loopw [5] (fun i wr => ∃ k : Nat, k ≤ xs.length ∧ i = .int .i64 k ∧ Hid (sameI xs ys = sameI (xs.drop k) (ys.drop k)) ∧ Hid (Below w.heap.size w wr)) (fun i _ => xs.length - (intOf i).toNat)
    case atStart => exact ⟨0, Nat.zero_le _, rfl, rfl, Below.refl _ _⟩
    case round =>
      obtain ⟨k, hk, rfl, hi, hb⟩ := hrel
      by_cases hlt : k < xs.length
      · obtain ⟨ad, rfl, hx, hc⟩ := HR.out k hlt
        obtain ⟨ad', rfl, hx', hc'⟩ := HR'.out k (by rw [← HZ.out]; exact hlt)
        have c1 := (hb.out.cell (p := ad.add k) (by rw [add_block]; exact hx)).trans hc
        have c2 := (hb.out.cell (p := ad'.add k) (by rw [add_block]; exact hx')).trans hc'
        have HS := Lib.hid (sameI_step xs ys k hlt (by rw [← HZ.out]; exact hlt))
        clear hc hc'
        generalize xs.getD k 0 = x at *
        generalize ys.getD k 0 = y at *
        cases he : (x == y)
        · have he' : (x != y) = true := by rw [bne, he]; rfl
          go_wp2
          go_quiet (fail)
          go_wp2
          go_ret
          exact ⟨by rw [hi.out, HS.out, he]; rfl, below_drewN hb.out _⟩
        · have he' : (x != y) = false := by rw [bne, he]; rfl
          go_wp2
          go_quiet (fail)
          go_wp2
          go_roundw
          case rel => exact ⟨k + 1, by omega, by go_num, by rw [hi.out, HS.out, he]; rfl, below_drewN hb.out _⟩
          case measure => simp [intOf]; omega
      · go_wp2
        go_ret
        exact ⟨by rw [hi.out, sameI_end (by omega) (by rw [← HZ.out]; omega)]; rfl, hb.out⟩
  · have h1 : ((xs.length : Int) != (ys.length : Int)) = true := by simpa using fun e => hz (by omega)
    rw [sameI_len hz]
    clear hz hr hr' hl
    go_enter Try.func94, Try.ntmps94
    go_wp2
    go_ret
    exact ⟨rfl, Below.refl _ _⟩
theorem slices_EqualInt (A A' : Option Addr) (n n' c c' : Nat) (xs ys : List Int) (w : World) (hn : n = xs.length) (hn' : n' = ys.length) (hl : xs.length ≤ maxLen) (hr : Reads w A xs) (hr' : Reads w A' ys) :
    Calls Try.prog 64 #[.slice A n c, .slice A' n' c'] w fun e w' => e = .returned (.bool (sameI xs ys)) ∧ Below w.heap.size w w' := by
  subst hn hn'
  by_cases hz : xs.length = ys.length
  · have HZ := Lib.hid hz
    rw [← hz]
    unfold maxLen at hl
    have HR := Lib.hid hr
    have HR' := Lib.hid hr'
    clear hr hr' hz
    go_enter Try.func64, Try.ntmps64
    go_wp2
    go_loopw [13] (fun i wr => ∃ k : Nat, k ≤ xs.length ∧ i = .int .i64 k ∧ Hid (sameI xs ys = sameI (xs.drop k) (ys.drop k)) ∧ Hid (Below w.heap.size w wr)) (fun i _ => xs.length - (intOf i).toNat)
    case atStart => exact ⟨0, Nat.zero_le _, rfl, rfl, Below.refl _ _⟩
    case round =>
      obtain ⟨k, hk, rfl, hi, hb⟩ := hrel
      by_cases hlt : k < xs.length
      · obtain ⟨ad, rfl, hx, hc⟩ := HR.out k hlt
        obtain ⟨ad', rfl, hx', hc'⟩ := HR'.out k (by rw [← HZ.out]; exact hlt)
        have c1 := (hb.out.cell (p := ad.add k) (by rw [add_block]; exact hx)).trans hc
        have c2 := (hb.out.cell (p := ad'.add k) (by rw [add_block]; exact hx')).trans hc'
        have HS := Lib.hid (sameI_step xs ys k hlt (by rw [← HZ.out]; exact hlt))
        clear hc hc'
        generalize xs.getD k 0 = x at *
        generalize ys.getD k 0 = y at *
        cases he : (x == y)
        · have he' : (x != y) = true := by rw [bne, he]; rfl
          go_wp2
          go_quiet (fail)
          go_wp2
          go_ret
          exact ⟨by rw [hi.out, HS.out, he]; rfl, below_drewN hb.out _⟩
        · have he' : (x != y) = false := by rw [bne, he]; rfl
          go_wp2
          go_quiet (fail)
          go_wp2
          go_roundw
          case rel => exact ⟨k + 1, by omega, by go_num, by rw [hi.out, HS.out, he]; rfl, below_drewN hb.out _⟩
          case measure => simp [intOf]; omega
      · go_wp2
        go_ret
        exact ⟨by rw [hi.out, sameI_end (by omega) (by rw [← HZ.out]; omega)]; rfl, hb.out⟩
  · have h1 : ((xs.length : Int) != (ys.length : Int)) = true := by simpa using fun e => hz (by omega)
    rw [sameI_len hz]
    clear hz hr hr' hl
    go_enter Try.func64, Try.ntmps64
    go_wp2
    go_ret
    exact ⟨rfl, Below.refl _ _⟩
/-! ### fields -/
def fdL (d l a b d' l' a' b' : Int) : Int := b2i (d != d') + b2i (l != l') + b2i (!(sameI (ftL d a b) (ftL d' a' b')))
def fdV (d l a b d' l' a' b' : Int) : Int := if fieldOk d l a b && fieldOk d' l' a' b' then fdL d l a b d' l' a' b' else 0
theorem ftL_len (d a b : Int) : (ftL d a b).length ≤ maxLen := by unfold ftL maxLen; split <;> simp
/-- What is known of two slices that a statement makes. -/
abbrev Two (W : World) (i j : Nat) (xs ys : List Int) (L : Nat → Bool) (v : Value × Value) (w' : World) : Prop :=
  (L j = true → L i = true) ∧ (L i = true → Ints w' W.heap.size v.1 xs) ∧ (L j = true → Ints w' W.heap.size v.2 ys ∧ (v.1.ownBlock = none ∨ v.1.ownBlock ≠ v.2.ownBlock))
theorem Two.keep {W : World} {i j : Nat} {xs ys : List Int} {L : Nat → Bool} {v : Value × Value} {a b : World} (h : Two W i j xs ys L v a) (hb : Below a.heap.size a b) : Two W i j xs ys L v b :=
  ⟨h.1, fun hL => (h.2.1 hL).below hb, fun hL => ⟨(h.2.2 hL).1.below hb, (h.2.2 hL).2⟩⟩
theorem Two.congr {W : World} {i j : Nat} {xs ys : List Int} {L L' : Nat → Bool} {v : Value × Value} {a : World} (h : Two W i j xs ys L v a) (hi : L' i = L i) (hj : L' j = L j) : Two W i j xs ys L' v a :=
  ⟨fun hL => hi ▸ h.1 (hj ▸ hL), fun hL => h.2.1 (hi ▸ hL), fun hL => h.2.2 (hj ▸ hL)⟩
theorem two_first {W W' w2 : World} {xs ys : List Int} {L : Nat → Bool} {v : Value × Value} {v2 : Value} {i j : Nat} (hE : Two W i j xs ys L v W') (hL : L i = false) (hi : Ints w2 W'.heap.size v2 xs) (hb : Below W'.heap.size W' w2) (hz : W.heap.size ≤ W'.heap.size) (hij : j ≠ i := by decide) :
    Two W i j xs ys (fun k => L k || k == i) (v2, v.2) w2 := by
  have hj : L j = false := by
    rw [← Bool.not_eq_true]
    intro h
    rw [hE.1 h] at hL
    cases hL
  refine ⟨fun _ => by simp, fun _ => hi.base hz, fun h => ?_⟩
  simp only [hj, Bool.false_or, beq_iff_eq] at h
  exact absurd h hij
theorem two_second {W W' w2 : World} {xs ys : List Int} {L : Nat → Bool} {v : Value × Value} {v2 : Value} {i j : Nat} (hE : Two W i j xs ys L v W') (hLi : L i = true) (hi : Ints w2 W'.heap.size v2 ys) (hb : Below W'.heap.size W' w2) (hz : W.heap.size ≤ W'.heap.size) :
    Two W i j xs ys (fun k => L k || k == j) (v.1, v2) w2 := by
  have h1 := hE.2.1 hLi
  exact ⟨fun _ => by simp [hLi], fun _ => h1.below hb, fun _ => ⟨hi.base hz, own_apart h1 hi (Nat.le_refl _)⟩⟩
theorem late_keep {U : Nat → Value} {U' : Nat → Value} {L : Nat → Bool} {i : Nat} {ls : List Nat} (hL : L i = false) (h : ∀ j, j ≠ i → U' j = U j) : ∀ j ∈ ls, L j = true → U' j = U j := fun j _ hj => h j fun e => by
  rw [e, hL] at hj
  cases hj
set_option maxHeartbeats 1000000 in
theorem spec_l3Differences (d l a b d' l' a' b' : Int) (w : World) : Calls Try.prog 61 #[.agg #[.int .i64 d, .int .i64 l, .int .i64 a, .int .i64 b], .agg #[.int .i64 d', .int .i64 l', .int .i64 a', .int .i64 b']] w fun e w' =>
    e = .returned (.int .i64 (fdL d l a b d' l' a' b')) ∧ Below w.heap.size w w' := by
  have HF : Hid (fdL d l a b d' l' a' b' = b2i (d != d') + b2i (l != l') + b2i (!(sameI (ftL d a b) (ftL d' a' b')))) := rfl
  have hm1 := Lib.hid (ftL_len d a b)
  cases hd : (d != d') <;> cases hl : (l != l')
  all_goals
    go_enter Try.func61, Try.ntmps61
    go_upto_region 6 with (fail)
    obtain ⟨B1, B2⟩ := blk_two w 47 47 #[.int .i64 d, .int .i64 l, .int .i64 a, .int .i64 b] #[.int .i64 d', .int .i64 l', .int .i64 a', .int .i64 b']
    have hW : Below w.heap.size w ((w.alloc (.cells #[.int .i64 d, .int .i64 l, .int .i64 a, .int .i64 b] 47)).alloc (.cells #[.int .i64 d', .int .i64 l', .int .i64 a', .int .i64 b'] 47)) := (by repeat (first | (with_reducible exact Below.refl _ _) | (with_reducible assumption) | (with_reducible refine balloc ?_ _) | (with_reducible refine bdrew ?_) | (with_reducible refine bdrewN ?_ _) | (with_reducible refine bset ?_ (by first | omega | (simp; done) | (simp; omega)) _) | (with_reducible refine bstep ?_ (by assumption))))
    generalize ((w.alloc (.cells #[.int .i64 d, .int .i64 l, .int .i64 a, .int .i64 b] 47)).alloc (.cells #[.int .i64 d', .int .i64 l', .int .i64 a', .int .i64 b'] 47)) = W at *
    refine wp_region_mildL (C := fun w' => Below W.heap.size W w') (γ := Value × Value) (U := fun v i => if i = 1 then v.1 else if i = 3 then v.2 else if i = 4 then .bool (sameI (ftL d a b) (ftL d' a' b')) else .bool (!(sameI (ftL d a b) (ftL d' a' b'))))
      (E := fun L v w' => Two W 1 3 (ftL d a b) (ftL d' a' b') L v w') [true, false, true, false, false, false] (undef, undef) (by kernel_rfl) rfl (by kernel_rfl) ⟨rfl, rfl, rfl, Nat.le_refl _, fun _ _ => rfl⟩ ⟨(fun h => by cases h), (fun h => by cases h), fun h => by cases h⟩
      (fun L v p q h1 hE h2 => ⟨h1.trans (h2.mono h1.size), hE.keep h2⟩) (fun L L' v p hl hE => hE.congr (hl 1 (by simp [lidxs])) (hl 3 (by simp [lidxs]))) ?_
    refine wpMildL_take rfl ⟨_, mild_load _ _ rfl _ rfl _ _ _ (fun w' h => B1.below h) Try.underlying47 rfl (by kernel_rfl), ?_⟩
    simp only [Act.put, List.setIfInBounds_toArray, List.set_cons_zero, List.set_cons_succ]
    refine wpMildL_late ?_
    refine wpMildL_take rfl ⟨_, mild_load _ _ rfl _ rfl _ _ _ (fun w' h => B2.below h) Try.underlying47 rfl (by kernel_rfl), ?_⟩
    simp only [Act.put, List.setIfInBounds_toArray, List.set_cons_zero, List.set_cons_succ]
    refine wpMildL_late ?_
    refine wpMildL_late ?_
    refine wpMildL_late ?_
    refine wpMildL_nil ?_
    refine ⟨lateAll_skip (lateAll_cons (fun L v W' hC hE hL hdep => ?_) (lateAll_skip (lateAll_cons (fun L v W' hC hE hL hdep => ?_) (lateAll_cons (fun L v W' hC hE hL hdep => ?_) (lateAll_cons (fun L v W' hC hE hL hdep => ?_) lateAll_nil))))), fun L v W' hall hC hE => ?_⟩
    all_goals simp only [lateputL, Act.put, List.setIfInBounds_toArray, List.set_cons_zero, List.set_cons_succ]
    · generalize hr : (execOp _ _).run Try.prog W' = r
      refine late_call (w' := W') (f := 78) (args := #[.agg #[.int .i64 d, .int .i64 l, .int .i64 a, .int .i64 b]]) (by rw [← hr]; go_simp) ((spec_l3Tinctures _ _ _ _ _).mono ?_)
      rintro e w2 ⟨v2, rfl, hi2, hb2⟩
      exact ⟨_, rfl, (v2, v.2), rfl, late_keep hL (fun j hj => by simp [hj]), hC.trans (hb2.mono hC.size), two_first hE hL hi2 hb2 hC.size⟩
    · generalize hr : (execOp _ _).run Try.prog W' = r
      refine late_call (w' := W') (f := 78) (args := #[.agg #[.int .i64 d', .int .i64 l', .int .i64 a', .int .i64 b']]) (by rw [← hr]; go_simp) ((spec_l3Tinctures _ _ _ _ _).mono ?_)
      rintro e w2 ⟨v2, rfl, hi2, hb2⟩
      exact ⟨_, rfl, (v.1, v2), rfl, late_keep hL (fun j hj => by simp [hj]), hC.trans (hb2.mono hC.size), two_second hE (hdep 1 (by kernel_rfl)) hi2 hb2 hC.size⟩
    · generalize hr : (execOp _ _).run Try.prog W' = r
      obtain ⟨v1, v2⟩ := v
      have E1 := hE.2.1 (hdep 1 (by kernel_rfl))
      have E2 := (hE.2.2 (hdep 3 (by kernel_rfl))).1
      obtain ⟨A1, c1, e1, HR1⟩ := own_reads E1
      obtain ⟨A2, c2, e2, HR2⟩ := own_reads E2
      simp only at e1 e2
      subst e1 e2
      clear E1 E2
      refine late_call (w' := W') (f := 94) (args := #[.slice A1 (ftL d a b).length c1, .slice A2 (ftL d' a' b').length c2]) (by rw [← hr]; go_simp) ((spec_l1Same _ _ _ _ _ _ _ _ _ rfl rfl hm1.out HR1.out HR2.out).mono ?_)
      rintro e w2 ⟨rfl, hb2⟩
      exact ⟨_, rfl, _, rfl, fun _ _ _ => rfl, hC.trans (hb2.mono hC.size), (hE.keep hb2).congr (by simp) (by simp)⟩
    · generalize hr : (execOp _ _).run Try.prog W' = r
      exact late_value (u := .bool (!(sameI (ftL d a b) (ftL d' a' b')))) (w' := W') (by rw [← hr]; go_simp) ⟨_, rfl, fun _ _ _ => rfl, hC, hE.congr (by simp) (by simp)⟩
    · have hW1 := bstep hW hC
      clear hE hall hC B1 B2 hm1
      cases hs : sameI (ftL d a b) (ftL d' a' b')
      all_goals
        go_wp2
        go_ret
        exact ⟨ret_int (by rw [HF.out, hd, hl, hs]; rfl), hW1⟩
theorem spec_FieldDifferences (d l a b d' l' a' b' : Int) (w : World) : Calls Try.prog 27 #[.agg #[.int .i64 d, .int .i64 l, .int .i64 a, .int .i64 b], .agg #[.int .i64 d', .int .i64 l', .int .i64 a', .int .i64 b']] w fun e w' =>
    e = .returned (.tuple #[.int .i64 (fdV d l a b d' l' a' b'), .bool (fieldOk d l a b && fieldOk d' l' a' b')]) ∧ Below w.heap.size w w' := by
  unfold fdV
  cases h1 : fieldOk d l a b
  · go_enter Try.func27, Try.ntmps27
    go_wp2_with (go_at_call 60; refine (spec_l3Good _ _ _ _ _).mono ?_; rintro e w1 ⟨rfl, hb1⟩)
    go_ret2
    exact ⟨by simp, (by repeat (first | (with_reducible exact Below.refl _ _) | (with_reducible assumption) | (with_reducible refine balloc ?_ _) | (with_reducible refine bdrew ?_) | (with_reducible refine bdrewN ?_ _) | (with_reducible refine bset ?_ (by first | omega | (simp; done) | (simp; omega)) _) | (with_reducible refine bstep ?_ (by assumption))))⟩
  · cases h2 : fieldOk d' l' a' b'
    all_goals
      go_enter Try.func27, Try.ntmps27
      go_wp2_with fail
      refine (spec_l3Good _ _ _ _ _).mono ?_
      rintro e w1 ⟨rfl, hb1⟩
      obtain ⟨A1, A2⟩ := blk_new2 hb1
      obtain ⟨c1, z1⟩ := A1.facts
      obtain ⟨c2, z2⟩ := A2.facts
      go_wp2_with fail
      refine (spec_l3Good _ _ _ _ _).mono ?_
      rintro e w2 ⟨rfl, hb2⟩
      obtain ⟨d1, y1⟩ := (A1.below hb2).facts
      obtain ⟨d2, y2⟩ := (A2.below hb2).facts
      clear c1 c2
      go_wp2_with (go_at_call 61; refine (spec_l3Differences _ _ _ _ _ _ _ _ _).mono ?_; rintro e w3 ⟨rfl, hb3⟩)
      go_ret2
      exact ⟨by simp, (by repeat (first | (with_reducible exact Below.refl _ _) | (with_reducible assumption) | (with_reducible refine balloc ?_ _) | (with_reducible refine bdrew ?_) | (with_reducible refine bdrewN ?_ _) | (with_reducible refine bset ?_ (by first | omega | (simp; done) | (simp; omega)) _) | (with_reducible refine bstep ?_ (by assumption))))⟩
theorem impl_number_b (b : Bool) (w : World) : Calls Try.prog 63 #[.bool b] w fun e w' => e = .returned (.int .i64 (b2i b)) ∧ Below w.heap.size w w' :=
  (impl_number b w).mono fun _ _ h => ⟨h.1, h.2 ▸ Below.refl _ _⟩
set_option maxHeartbeats 1000000 in
theorem impl_FieldDifferences (d l a b d' l' a' b' : Int) (w : World) : Calls Try.prog 29 #[.agg #[.int .i64 d, .int .i64 l, .int .i64 a, .int .i64 b], .agg #[.int .i64 d', .int .i64 l', .int .i64 a', .int .i64 b']] w fun e w' =>
    e = .returned (.tuple #[.int .i64 (fdV d l a b d' l' a' b'), .bool (fieldOk d l a b && fieldOk d' l' a' b')]) ∧ Below w.heap.size w w' := by
  unfold fdV
  cases h1 : fieldOk d l a b
  · go_enter Try.func29, Try.ntmps29
    go_wp2_with (go_at_call 62; refine (impl_IsValidField _ _ _ _ _).mono ?_; rintro e w1 ⟨rfl, hb1⟩)
    go_ret2
    exact ⟨by simp, (by repeat (first | (with_reducible exact Below.refl _ _) | (with_reducible assumption) | (with_reducible refine balloc ?_ _) | (with_reducible refine bdrew ?_) | (with_reducible refine bdrewN ?_ _) | (with_reducible refine bset ?_ (by first | omega | (simp; done) | (simp; omega)) _) | (with_reducible refine bstep ?_ (by assumption))))⟩
  · cases h2 : fieldOk d' l' a' b'
    · go_enter Try.func29, Try.ntmps29
      go_wp2_with fail
      refine (impl_IsValidField _ _ _ _ _).mono ?_
      rintro e w1 ⟨rfl, hb1⟩
      obtain ⟨A1, A2⟩ := blk_new2 hb1
      obtain ⟨c1, z1⟩ := A1.facts
      obtain ⟨c2, z2⟩ := A2.facts
      go_wp2_with (go_at_call 62; refine (impl_IsValidField _ _ _ _ _).mono ?_; rintro e w2 ⟨rfl, hb2⟩)
      go_ret2
      exact ⟨by simp, (by repeat (first | (with_reducible exact Below.refl _ _) | (with_reducible assumption) | (with_reducible refine balloc ?_ _) | (with_reducible refine bdrew ?_) | (with_reducible refine bdrewN ?_ _) | (with_reducible refine bset ?_ (by first | omega | (simp; done) | (simp; omega)) _) | (with_reducible refine bstep ?_ (by assumption))))⟩
    · have HF : Hid (fdL d l a b d' l' a' b' = b2i (d != d') + b2i (l != l') + b2i (!(sameI (ftL d a b) (ftL d' a' b')))) := rfl
      have hm1 := Lib.hid (ftL_len d a b)
      go_enter Try.func29, Try.ntmps29
      go_wp2_with fail
      refine (impl_IsValidField _ _ _ _ _).mono ?_
      rintro e w1 ⟨rfl, hb1⟩
      obtain ⟨A1, A2⟩ := blk_new2 hb1
      obtain ⟨c1, z1⟩ := A1.facts
      obtain ⟨c2, z2⟩ := A2.facts
      have hW0 : Below w.heap.size w w1 := (by repeat (first | (with_reducible exact Below.refl _ _) | (with_reducible assumption) | (with_reducible refine balloc ?_ _) | (with_reducible refine bdrew ?_) | (with_reducible refine bdrewN ?_ _) | (with_reducible refine bset ?_ (by first | omega | (simp; done) | (simp; omega)) _) | (with_reducible refine bstep ?_ (by assumption))))
      go_wp2_with fail
      refine (impl_IsValidField _ _ _ _ _).mono ?_
      rintro e W ⟨rfl, hb2⟩
      have B1 := A1.below hb2
      have B2 := A2.below hb2
      have hW := bstep hW0 hb2
      clear c1 c2 z1 z2 hb1 hb2 A1 A2 hW0
      go_wp2_with fail
      have r1 := b2i_range (d != d')
      have r2 := b2i_range (l != l')
      have r3 := b2i_range (!(sameI (ftL d a b) (ftL d' a' b')))
      have x1 : IntKind.i64.wrap (b2i (d != d') + b2i (l != l')) = b2i (d != d') + b2i (l != l') := IntWalk.i64_in _ (by omega)
      have x2 : IntKind.i64.wrap (b2i (d != d') + b2i (l != l') + b2i (!(sameI (ftL d a b) (ftL d' a' b')))) = b2i (d != d') + b2i (l != l') + b2i (!(sameI (ftL d a b) (ftL d' a' b'))) := IntWalk.i64_in _ (by omega)
      have HC1 : Hid (∀ W', Below W.heap.size W W' → ∀ i, W'.cell? ⟨w.heap.size, i, none⟩ = (#[.int .i64 d, .int .i64 l, .int .i64 a, .int .i64 b] : Array Value)[i]?) := fun W' h => (B1.below h).cell
      have HC2 : Hid (∀ W', Below W.heap.size W W' → ∀ i, W'.cell? ⟨w.heap.size + 1, i, none⟩ = (#[.int .i64 d', .int .i64 l', .int .i64 a', .int .i64 b'] : Array Value)[i]?) := fun W' h => (B2.below h).cell
      refine wp_region_mildL (C := fun w' => Below W.heap.size W w') (γ := Value × Value) (U := fun v i => if i = 14 then v.1 else if i = 16 then v.2 else if i = 17 then .bool (sameI (ftL d a b) (ftL d' a' b')) else if i = 18 then .bool (!(sameI (ftL d a b) (ftL d' a' b')))
          else if i = 19 then .int .i64 (b2i (!(sameI (ftL d a b) (ftL d' a' b')))) else .int .i64 (b2i (d != d') + b2i (l != l') + b2i (!(sameI (ftL d a b) (ftL d' a' b')))))
        (E := fun L v w' => Two W 14 16 (ftL d a b) (ftL d' a' b') L v w') [true, true, true, true, true, true, true, true, true, true, true, true, true, true, false, true, false, false, false, false, false, false, true] (undef, undef) (by kernel_rfl) rfl (by kernel_rfl)
        ⟨rfl, rfl, rfl, Nat.le_refl _, fun _ _ => rfl⟩ ⟨(fun h => by cases h), (fun h => by cases h), fun h => by cases h⟩
        (fun L v p q h1 hE h2 => ⟨h1.trans (h2.mono h1.size), hE.keep h2⟩) (fun L L' v p hl hE => hE.congr (hl 14 (by simp [lidxs])) (hl 16 (by simp [lidxs]))) ?_
      refine wpMildL_take rfl ?_
      apply Exists.intro
      refine ⟨fun w' hw' => ?_, ?_⟩
      · go_simp
        with_reducible rfl
      simp only [Act.put, List.setIfInBounds_toArray, List.set_cons_zero, List.set_cons_succ]
      refine wpMildL_take rfl ?_
      apply Exists.intro
      refine ⟨fun w' hw' => ?_, ?_⟩
      · (have hc := HC1.out w' hw'; go_simp; with_reducible rfl)
      simp only [Act.put, List.setIfInBounds_toArray, List.set_cons_zero, List.set_cons_succ]
      refine wpMildL_take rfl ?_
      apply Exists.intro
      refine ⟨fun w' hw' => ?_, ?_⟩
      · go_simp
        with_reducible rfl
      simp only [Act.put, List.setIfInBounds_toArray, List.set_cons_zero, List.set_cons_succ]
      refine wpMildL_take rfl ?_
      apply Exists.intro
      refine ⟨fun w' hw' => ?_, ?_⟩
      · (have hc := HC2.out w' hw'; go_simp; with_reducible rfl)
      simp only [Act.put, List.setIfInBounds_toArray, List.set_cons_zero, List.set_cons_succ]
      refine wpMildL_take rfl ?_
      apply Exists.intro
      refine ⟨fun w' hw' => ?_, ?_⟩
      · go_simp
        with_reducible rfl
      simp only [Act.put, List.setIfInBounds_toArray, List.set_cons_zero, List.set_cons_succ]
      refine wpMildL_take rfl ?_
      apply Exists.intro
      refine ⟨fun w' hw' => ?_, ?_⟩
      · go_simp
        exact impl_number_b _ _
      simp only [Act.put, List.setIfInBounds_toArray, List.set_cons_zero, List.set_cons_succ]
      refine wpMildL_take rfl ?_
      apply Exists.intro
      refine ⟨fun w' hw' => ?_, ?_⟩
      · go_simp
        with_reducible rfl
      simp only [Act.put, List.setIfInBounds_toArray, List.set_cons_zero, List.set_cons_succ]
      refine wpMildL_take rfl ?_
      apply Exists.intro
      refine ⟨fun w' hw' => ?_, ?_⟩
      · (have hc := HC1.out w' hw'; go_simp; with_reducible rfl)
      simp only [Act.put, List.setIfInBounds_toArray, List.set_cons_zero, List.set_cons_succ]
      refine wpMildL_take rfl ?_
      apply Exists.intro
      refine ⟨fun w' hw' => ?_, ?_⟩
      · go_simp
        with_reducible rfl
      simp only [Act.put, List.setIfInBounds_toArray, List.set_cons_zero, List.set_cons_succ]
      refine wpMildL_take rfl ?_
      apply Exists.intro
      refine ⟨fun w' hw' => ?_, ?_⟩
      · (have hc := HC2.out w' hw'; go_simp; with_reducible rfl)
      simp only [Act.put, List.setIfInBounds_toArray, List.set_cons_zero, List.set_cons_succ]
      refine wpMildL_take rfl ?_
      apply Exists.intro
      refine ⟨fun w' hw' => ?_, ?_⟩
      · go_simp
        with_reducible rfl
      simp only [Act.put, List.setIfInBounds_toArray, List.set_cons_zero, List.set_cons_succ]
      refine wpMildL_take rfl ?_
      apply Exists.intro
      refine ⟨fun w' hw' => ?_, ?_⟩
      · go_simp
        exact impl_number_b _ _
      simp only [Act.put, List.setIfInBounds_toArray, List.set_cons_zero, List.set_cons_succ]
      refine wpMildL_take rfl ?_
      apply Exists.intro
      refine ⟨fun w' hw' => ?_, ?_⟩
      · go_simp
        with_reducible rfl
      simp only [Act.put, List.setIfInBounds_toArray, List.set_cons_zero, List.set_cons_succ]
      refine wpMildL_take rfl ⟨_, mild_load _ _ rfl _ rfl _ _ _ (fun w' h => B1.below h) Try.underlying47 rfl (by kernel_rfl), ?_⟩
      simp only [Act.put, List.setIfInBounds_toArray, List.set_cons_zero, List.set_cons_succ]
      refine wpMildL_late ?_
      refine wpMildL_take rfl ⟨_, mild_load _ _ rfl _ rfl _ _ _ (fun w' h => B2.below h) Try.underlying47 rfl (by kernel_rfl), ?_⟩
      simp only [Act.put, List.setIfInBounds_toArray, List.set_cons_zero, List.set_cons_succ]
      refine wpMildL_late ?_
      refine wpMildL_late ?_
      refine wpMildL_late ?_
      refine wpMildL_late ?_
      refine wpMildL_late ?_
      refine wpMildL_late ?_
      refine wpMildL_take rfl ?_
      apply Exists.intro
      refine ⟨fun w' hw' => ?_, ?_⟩
      · go_simp
        with_reducible rfl
      simp only [Act.put, List.setIfInBounds_toArray, List.set_cons_zero, List.set_cons_succ]
      refine wpMildL_nil ?_
      refine ⟨?_, fun L v W' hall hC hE => ?_⟩
      · repeat' (first | refine lateAll_skip ?_ | refine lateAll_cons (fun L v W' hC hE hL hdep => ?_) ?_ | exact lateAll_nil)
        all_goals simp only [lateputL, Act.put, List.setIfInBounds_toArray, List.set_cons_zero, List.set_cons_succ]
        · generalize hr : (execOp _ _).run Try.prog W' = r
          refine late_call (w' := W') (f := 65) (args := #[.agg #[.int .i64 d, .int .i64 l, .int .i64 a, .int .i64 b]]) (by rw [← hr]; go_simp) ((impl_Field_tinctures _ _ _ _ _).mono ?_)
          rintro e w2 ⟨v2, rfl, hi2, hb2⟩
          exact ⟨_, rfl, (v2, v.2), rfl, late_keep hL (fun j hj => by simp [hj]), hC.trans (hb2.mono hC.size), two_first hE hL hi2 hb2 hC.size⟩
        · generalize hr : (execOp _ _).run Try.prog W' = r
          refine late_call (w' := W') (f := 65) (args := #[.agg #[.int .i64 d', .int .i64 l', .int .i64 a', .int .i64 b']]) (by rw [← hr]; go_simp) ((impl_Field_tinctures _ _ _ _ _).mono ?_)
          rintro e w2 ⟨v2, rfl, hi2, hb2⟩
          exact ⟨_, rfl, (v.1, v2), rfl, late_keep hL (fun j hj => by simp [hj]), hC.trans (hb2.mono hC.size), two_second hE (hdep 14 (by kernel_rfl)) hi2 hb2 hC.size⟩
        · generalize hr : (execOp _ _).run Try.prog W' = r
          obtain ⟨v1, v2⟩ := v
          have E1 := hE.2.1 (hdep 14 (by kernel_rfl))
          have E2 := (hE.2.2 (hdep 16 (by kernel_rfl))).1
          obtain ⟨A1, c1, e1, HR1⟩ := own_reads E1
          obtain ⟨A2, c2, e2, HR2⟩ := own_reads E2
          simp only at e1 e2
          subst e1 e2
          clear E1 E2
          refine late_call (w' := W') (f := 64) (args := #[.slice A1 (ftL d a b).length c1, .slice A2 (ftL d' a' b').length c2]) (by rw [← hr]; go_simp) ((slices_EqualInt _ _ _ _ _ _ _ _ _ rfl rfl hm1.out HR1.out HR2.out).mono ?_)
          rintro e w2 ⟨rfl, hb2⟩
          exact ⟨_, rfl, _, rfl, fun _ _ _ => rfl, hC.trans (hb2.mono hC.size), (hE.keep hb2).congr (by simp) (by simp)⟩
        · generalize hr : (execOp _ _).run Try.prog W' = r
          exact late_value (u := .bool (!(sameI (ftL d a b) (ftL d' a' b')))) (w' := W') (by rw [← hr]; go_simp) ⟨_, rfl, fun _ _ _ => rfl, hC, hE.congr (by simp) (by simp)⟩
        · generalize hr : (execOp _ _).run Try.prog W' = r
          refine late_call (w' := W') (f := 63) (args := #[.bool (!(sameI (ftL d a b) (ftL d' a' b')))]) (by rw [← hr]; go_simp) ((impl_number_b _ _).mono ?_)
          rintro e w2 ⟨rfl, hb2⟩
          exact ⟨_, rfl, _, rfl, fun _ _ _ => rfl, hC.trans (hb2.mono hC.size), (hE.keep hb2).congr (by simp) (by simp)⟩
        · generalize hr : (execOp _ _).run Try.prog W' = r
          exact late_value (u := .int .i64 (b2i (d != d') + b2i (l != l') + b2i (!(sameI (ftL d a b) (ftL d' a' b'))))) (w' := W') (by rw [← hr]; go_simp) ⟨_, rfl, fun _ _ _ => rfl, hC, hE.congr (by simp) (by simp)⟩
        · generalize hr : (execOp _ _).run Try.prog W' = r
          exact late_value (u := .int .i64 (b2i (d != d') + b2i (l != l') + b2i (!(sameI (ftL d a b) (ftL d' a' b'))))) (w' := W') (by rw [← hr]; go_simp) ⟨_, rfl, fun _ _ _ => rfl, hC, hE.congr (by simp) (by simp)⟩
      · simp only [lateputL, Act.put, List.setIfInBounds_toArray, List.set_cons_zero, List.set_cons_succ]
        have hW1 := bstep hW hC
        clear hE hall hC B1 B2 hm1 x1 x2 r1 r2 r3
        go_wp2
        go_ret2
        exact ⟨by rw [← HF.out]; rfl, hW1⟩
end Go.Proofs.Ytmemabeackgioaa
