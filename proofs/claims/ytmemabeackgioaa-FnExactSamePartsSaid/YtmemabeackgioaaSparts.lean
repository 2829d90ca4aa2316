/- The parts of two fields compared. Conditions: as each theorem says. -/
import Derived.Test.YtmemabeackgioaaRows
import Derived.Test.YtmemabeackgioaaSame
import Derived.Test.YtmemabeackgioaaShelf
import Derived.Lib.OwnBridge
namespace Go.Proofs.Ytmemabeackgioaa
set_option linter.unusedSimpArgs false
set_option linter.unusedVariables false
open Go.ChangeShapes Go.WideShapes Go.ChangeAt Go.RowKit

def sortI (xs : List Int) : List Int := xs.mergeSort fun x y => decide (x ≤ y)
theorem sortI_len (xs : List Int) : (sortI xs).length = xs.length := by unfold sortI; simp
theorem grownT {w w1 w2 : World} {r : Option Nat} (h : w.grownBy w1 r) (h' : w1.grownBy w2 r) : w.grownBy w2 r :=
  ⟨h'.os.trans h.os, h'.tape.trans h.tape, h'.output.trans h.output, Nat.le_trans h.size h'.size, fun b hb hne => (h'.block b (Nat.lt_of_lt_of_le hb h.size) hne).trans (h.block b hb hne)⟩
theorem grow_below (X : World) (os : Array Obj) : Below X.heap.size X (Sort.grow X os) := ⟨rfl, rfl, rfl, by simp [Sort.grow], fun k hk => by simp [Sort.grow, Array.getElem?_append, hk]⟩
theorem slices_SortInt (v : Value) (xs : List Int) (w : World) (B : Nat) (hv : Ints w B v xs) (hne : 0 < xs.length) (hl : xs.length ≤ 1048576) :
    Calls Try.prog 79 #[v] w fun e w' => e = .returned (.tuple #[]) ∧ Ints w' B v (sortI xs) ∧ w.grownBy w' v.ownBlock := by
  have hv0 : v ≠ .slice none 0 0 := by
    rintro rfl
    rcases hv.2 with ⟨_, h0⟩ | ⟨g, cap, cur, hv', _⟩
    · omega
    · cases hv'
  obtain ⟨g, cap, rfl, hB, hg, hn, hm, _, hH⟩ := Lib.holds_of_ownsRow (enc := Value.int .i64) hv hv0
  refine (Try.slices_Sort_int g 0 cap xs w hH hg (by omega)).mono ?_
  rintro e w' ⟨he, q, os, rfl⟩
  have h1 := Lib.ownsRow_putRow (q := q) (k := xs.length) (ys := sortI xs) hv (sortI_len xs) (Nat.le_refl _)
  rw [List.take_of_length_le (by rw [sortI_len]; exact Nat.le_refl _)] at h1
  have hb := grow_below (Sort.putRow (Value.int .i64) (Sort.ahead w q) g 0 (sortI xs).toArray) os
  refine ⟨he, ?_, ?_⟩
  · have h2 := own_below h1 hb
    unfold Ints
    rw [sortI_len]
    exact h2
  · refine grownT (w1 := Sort.putRow (Value.int .i64) (Sort.ahead w q) g 0 (sortI xs).toArray) ⟨rfl, rfl, rfl, by simp [Sort.putRow, Sort.mapBlock, Sort.ahead], fun k hk hne => ?_⟩ (grown_of_below hb _)
    have hgk : g ≠ k := fun e => hne (by rw [← e]; rfl)
    simp [Sort.putRow, Sort.mapBlock, Sort.ahead, Array.getElem?_modify, hgk]
theorem apart_symm' {a b : Option Nat} (h : a = none ∨ a ≠ b) : b = none ∨ b ≠ a := by
  cases b with
  | none => exact .inl rfl
  | some k =>
    refine .inr fun e => ?_
    rcases h with h | h
    · rw [h] at e; cases e
    · exact h e.symm
/-- The two fields have the same tinctures. -/
def spL (d a b d' a' b' : Int) : Bool := sameI (sortI (ftL d a b)) (sortI (ftL d' a' b'))
def spV (d l a b d' l' a' b' : Int) : Bool := fieldOk d l a b && (fieldOk d' l' a' b' && spL d a b d' a' b')
def allHas (xs ys : List Int) : Bool := xs.all fun x => hasI ys x
theorem allHas_step (xs ys : List Int) (k : Nat) (h : k < xs.length) : allHas (xs.drop k) ys = (hasI ys (xs.getD k 0) && allHas (xs.drop (k + 1)) ys) := by
  have e : xs.getD k 0 = xs[k] := by simp [List.getD_eq_getElem?_getD, h]
  rw [List.drop_eq_getElem_cons h, e]
  rfl
theorem sortI_one (a : Int) : sortI [a] = [a] := by simp [sortI]
theorem sortI_two (a b : Int) : sortI [a, b] = if a ≤ b then [a, b] else [b, a] := by
  unfold sortI
  rw [List.mergeSort]
  simp [List.MergeSort.Internal.splitInTwo, List.merge]
theorem spL_eq {d l a b d' l' a' b' : Int} (h : fieldOk d l a b = true) (h' : fieldOk d' l' a' b' = true) : spL d a b d' a' b' = (allHas (ftL d a b) (ftL d' a' b') && decide ((ftL d a b).length = (ftL d' a' b').length)) := by
  have two : ∀ {d l a b : Int}, fieldOk d l a b = true → d ≠ 0 → a ≠ b := fun {d l a b} h hd => by
    unfold fieldOk at h
    simp only [Bool.and_eq_true] at h
    have h3 := h.2.2.2
    rw [if_neg (by simpa using hd)] at h3
    simp only [Bool.and_eq_true, bne_iff_ne] at h3
    exact Ne.symm h3.2
  unfold spL ftL
  by_cases hd : d = 0 <;> by_cases hd' : d' = 0
  · rw [Bool.eq_iff_iff]
    simp [hd, hd', sortI_one, sameI, allHas, hasI]
    exact eq_comm
  · simp only [hd, hd', if_true, if_false, sortI_one, sortI_two]
    split <;> simp [sameI, allHas, hasI]
  · simp only [hd, hd', if_true, if_false, sortI_one, sortI_two]
    split <;> simp [sameI, allHas, hasI]
  · have n1 := two h hd
    have n2 := two h' hd'
    simp only [hd, hd', if_false, sortI_two]
    rw [Bool.eq_iff_iff]
    split <;> split <;> simp [sameI, allHas, hasI] <;> omega
theorem ftL_pos (d a b : Int) : 0 < (ftL d a b).length := by unfold ftL; split <;> simp
theorem ftL_len' (d a b : Int) : (ftL d a b).length ≤ 1048576 := by unfold ftL; split <;> simp
set_option maxHeartbeats 1000000 in
theorem spec_SameParts (d l a b d' l' a' b' : Int) (w : World) : Calls Try.prog 44 #[.agg #[.int .i64 d, .int .i64 l, .int .i64 a, .int .i64 b], .agg #[.int .i64 d', .int .i64 l', .int .i64 a', .int .i64 b']] w fun e w' =>
    e = .returned (.tuple #[.bool (spV d l a b d' l' a' b'), .bool (fieldOk d l a b && fieldOk d' l' a' b')]) ∧ Below w.heap.size w w' := by
  have HV : Hid (spV d l a b d' l' a' b' = (fieldOk d l a b && (fieldOk d' l' a' b' && spL d a b d' a' b'))) := rfl
  cases h1 : fieldOk d l a b
  · go_enter Try.func44, Try.ntmps44
    go_wp2_with (go_at_call 60; refine (spec_l3Good _ _ _ _ _).mono ?_; rintro e w1 ⟨rfl, hb1⟩)
    go_ret2
    exact ⟨by rw [HV.out, h1]; rfl, (by repeat (first | (with_reducible exact Below.refl _ _) | (with_reducible assumption) | (with_reducible refine balloc ?_ _) | (with_reducible refine bdrew ?_) | (with_reducible refine bdrewN ?_ _) | (with_reducible refine bset ?_ (by first | omega | (simp; done) | (simp; omega)) _) | (with_reducible refine bstep ?_ (by assumption))))⟩
  cases h2 : fieldOk d' l' a' b'
  · go_enter Try.func44, Try.ntmps44
    go_wp2_with fail
    refine (spec_l3Good _ _ _ _ _).mono ?_
    rintro e w1 ⟨rfl, hb1⟩
    obtain ⟨A1, A2⟩ := blk_new2 hb1
    obtain ⟨c1, z1⟩ := A1.facts
    obtain ⟨c2, z2⟩ := A2.facts
    go_wp2_with (go_at_call 60; refine (spec_l3Good _ _ _ _ _).mono ?_; rintro e w2 ⟨rfl, hb2⟩)
    go_ret2
    exact ⟨by rw [HV.out, h1, h2]; rfl, (by repeat (first | (with_reducible exact Below.refl _ _) | (with_reducible assumption) | (with_reducible refine balloc ?_ _) | (with_reducible refine bdrew ?_) | (with_reducible refine bdrewN ?_ _) | (with_reducible refine bset ?_ (by first | omega | (simp; done) | (simp; omega)) _) | (with_reducible refine bstep ?_ (by assumption))))⟩
  have hm1 := Lib.hid (ftL_len d a b)
  have hm2 := Lib.hid (ftL_len d' a' b')
  have HP := Lib.hid (spL_eq h1 h2)
  have H1 := Lib.hid h1
  have H2 := Lib.hid h2
  go_enter Try.func44, Try.ntmps44
  go_wp2_with fail
  refine (spec_l3Good _ _ _ _ _).mono ?_
  rintro e w1 ⟨rfl, hb1⟩
  obtain ⟨A1, A2⟩ := blk_new2 hb1
  obtain ⟨c1, z1⟩ := A1.facts
  obtain ⟨c2, z2⟩ := A2.facts
  have hW0 : Below w.heap.size w w1 := (by repeat (first | (with_reducible exact Below.refl _ _) | (with_reducible assumption) | (with_reducible refine balloc ?_ _) | (with_reducible refine bdrew ?_) | (with_reducible refine bdrewN ?_ _) | (with_reducible refine bset ?_ (by first | omega | (simp; done) | (simp; omega)) _) | (with_reducible refine bstep ?_ (by assumption))))
  go_wp2_with fail
  refine (spec_l3Good _ _ _ _ _).mono ?_
  rintro e W ⟨rfl, hb2⟩
  have B1 := A1.below hb2
  have B2 := A2.below hb2
  have hW := bstep hW0 hb2
  clear c1 c2 z1 z2 hb1 hb2 A1 A2 hW0
  go_wp2_with fail
  clear h1 h2
  refine wp_region_mildL (C := fun w' => Below W.heap.size W w') (γ := Value × Value) (U := fun v i => if i = 1 then v.1 else if i = 3 then v.2 else if i = 4 then v.1 else v.2)
    (E := fun L v w' => Two W 1 3 (ftL d a b) (ftL d' a' b') L v w' ∧ (L 4 = true → L 1 = true) ∧ (L 5 = true → L 3 = true)) [true, false, true, false, false, false] (undef, undef) (by kernel_rfl) rfl (by kernel_rfl)
    ⟨rfl, rfl, rfl, Nat.le_refl _, fun _ _ => rfl⟩ ⟨⟨(fun h => by cases h), (fun h => by cases h), fun h => by cases h⟩, (fun h => by cases h), fun h => by cases h⟩
    (fun L v p q h1 hE h2 => ⟨h1.trans (h2.mono h1.size), hE.1.keep h2, hE.2⟩)
    (fun L L' v p hl hE => ⟨hE.1.congr (hl 1 (by simp [lidxs])) (hl 3 (by simp [lidxs])), by rw [hl 4 (by simp [lidxs]), hl 1 (by simp [lidxs])]; exact hE.2.1, by rw [hl 5 (by simp [lidxs]), hl 3 (by simp [lidxs])]; exact hE.2.2⟩) ?_
  refine wpMildL_take rfl ⟨_, mild_load _ _ rfl _ rfl _ _ _ (fun w' h => B1.below h) Try.underlying47 rfl (by kernel_rfl), ?_⟩
  simp only [Act.put, List.setIfInBounds_toArray, List.set_cons_zero, List.set_cons_succ]
  refine wpMildL_late ?_
  refine wpMildL_take rfl ⟨_, mild_load _ _ rfl _ rfl _ _ _ (fun w' h => B2.below h) Try.underlying47 rfl (by kernel_rfl), ?_⟩
  simp only [Act.put, List.setIfInBounds_toArray, List.set_cons_zero, List.set_cons_succ]
  refine wpMildL_late ?_
  refine wpMildL_late ?_
  refine wpMildL_late ?_
  refine wpMildL_nil ?_
  refine ⟨?_, fun L v W' hall hC hE => ?_⟩
  · repeat' (first | refine lateAll_skip ?_ | refine lateAll_cons (fun L v W' hC hE hL hdep => ?_) ?_ | exact lateAll_nil)
    all_goals simp only [lateputL, Act.put, List.setIfInBounds_toArray, List.set_cons_zero, List.set_cons_succ]
    all_goals generalize hr : (execOp _ _).run Try.prog W' = r
    · refine late_call (w' := W') (f := 78) (args := #[.agg #[.int .i64 d, .int .i64 l, .int .i64 a, .int .i64 b]]) (by rw [← hr]; go_simp) ((spec_l3Tinctures _ _ _ _ _).mono ?_)
      rintro e w2 ⟨v2, rfl, hi2, hb2⟩
      have h4 : L 4 = false := by
        rw [← Bool.not_eq_true]
        intro h
        rw [hE.2.1 h] at hL
        cases hL
      refine ⟨_, rfl, (v2, v.2), rfl, fun j hj hLj => ?_, hC.trans (hb2.mono hC.size), two_first hE.1 hL hi2 hb2 hC.size, fun _ => by simp, fun h => by simpa using hE.2.2 (by simpa using h)⟩
      simp only [lidxs, List.mem_cons, List.not_mem_nil, or_false] at hj
      rcases hj with rfl | rfl | rfl | rfl
      · rw [hL] at hLj; cases hLj
      · rfl
      · rw [h4] at hLj; cases hLj
      · rfl
    · refine late_call (w' := W') (f := 78) (args := #[.agg #[.int .i64 d', .int .i64 l', .int .i64 a', .int .i64 b']]) (by rw [← hr]; go_simp) ((spec_l3Tinctures _ _ _ _ _).mono ?_)
      rintro e w2 ⟨v2, rfl, hi2, hb2⟩
      have h5 : L 5 = false := by
        rw [← Bool.not_eq_true]
        intro h
        rw [hE.2.2 h] at hL
        cases hL
      refine ⟨_, rfl, (v.1, v2), rfl, fun j hj hLj => ?_, hC.trans (hb2.mono hC.size), two_second hE.1 (hdep 1 (by kernel_rfl)) hi2 hb2 hC.size, fun h => by simpa using hE.2.1 (by simpa using h), fun _ => by simp⟩
      simp only [lidxs, List.mem_cons, List.not_mem_nil, or_false] at hj
      rcases hj with rfl | rfl | rfl | rfl
      · rfl
      · rw [hL] at hLj; cases hLj
      · rfl
      · rw [h5] at hLj; cases hLj
    · exact late_value (u := v.1) (w' := W') (by rw [← hr]; go_simp) ⟨_, rfl, fun _ _ _ => rfl, hC, hE.1.congr (by simp) (by simp), fun _ => by simpa using hdep 1 (by kernel_rfl), fun h => by simpa using hE.2.2 (by simpa using h)⟩
    · exact late_value (u := v.2) (w' := W') (by rw [← hr]; go_simp) ⟨_, rfl, fun _ _ _ => rfl, hC, hE.1.congr (by simp) (by simp), fun h => by simpa using hE.2.1 (by simpa using h), fun _ => by simpa using hdep 3 (by kernel_rfl)⟩
  simp only [lateputL, Act.put, List.setIfInBounds_toArray, List.set_cons_zero, List.set_cons_succ]
  obtain ⟨v1, v2⟩ := v
  have E1 : Ints W' W.heap.size v1 (ftL d a b) := hE.1.2.1 (hall 1 (by decide))
  obtain ⟨E2, ap⟩ := hE.1.2.2 (hall 3 (by decide))
  have E2 : Ints W' W.heap.size v2 (ftL d' a' b') := E2
  have ap : v1.ownBlock = none ∨ v1.ownBlock ≠ v2.ownBlock := ap
  have hW1 := bstep hW hC
  have hWz : w.heap.size ≤ W.heap.size := hW.size
  clear hE hall hC B1 B2 hW
  simp only
  obtain ⟨A, c, rfl, HR⟩ := own_reads E1
  obtain ⟨A', c', rfl, HR'⟩ := own_reads E2
  clear E1 E2 ap
  have hm := hm1.out
  unfold maxLen at hm
  have HW1 := Lib.hid hW1
  clear hW1
  go_wp2
  go_loop [8] (fun i => ∃ k : Nat, k ≤ (ftL d a b).length ∧ i = .int .i64 k ∧ Hid (allHas (ftL d a b) (ftL d' a' b') = allHas ((ftL d a b).drop k) (ftL d' a' b'))) (fun i => (ftL d a b).length - (intOf i).toNat)
  case atStart => exact ⟨0, Nat.zero_le _, rfl, rfl⟩
  case round =>
    obtain ⟨k, hk, rfl, hi⟩ := hrel
    by_cases hlt : k < (ftL d a b).length
    · obtain ⟨ad, rfl, hx, hc⟩ := HR.out k hlt
      have HS := Lib.hid (allHas_step (ftL d a b) (ftL d' a' b') k hlt)
      generalize (ftL d a b).getD k 0 = y at *
      cases he : hasI (ftL d' a' b') y
      · go_wp2_with (go_at_call 53; refine (spec_l1Has _ _ _ _ _ _ rfl hm2.out HR'.out).mono ?_; rintro e w' ⟨rfl, rfl⟩)
        go_ret2
        exact ⟨by rw [HV.out, H1.out, H2.out, HP.out, hi.out, HS.out, he]; rfl, HW1.out⟩
      · go_wp2_with (go_at_call 53; refine (spec_l1Has _ _ _ _ _ _ rfl hm2.out HR'.out).mono ?_; rintro e w' ⟨rfl, rfl⟩)
        go_round
        case rel => exact ⟨k + 1, by omega, by go_num, by rw [hi.out, HS.out, he]; rfl⟩
        case measure => simp [intOf]; omega
    · go_wp2
      go_ret2
      refine ⟨?_, HW1.out⟩
      rw [HV.out, H1.out, H2.out, HP.out, hi.out, List.drop_of_length_le (by omega)]
      show Ending.returned (.tuple #[.bool (decide (((ftL d a b).length : Int) = ((ftL d' a' b').length : Int))), .bool true]) = Ending.returned (.tuple #[.bool (decide ((ftL d a b).length = (ftL d' a' b').length)), .bool true])
      rw [show decide (((ftL d a b).length : Int) = ((ftL d' a' b').length : Int)) = decide ((ftL d a b).length = (ftL d' a' b').length) by rw [decide_eq_decide]; omega]
set_option maxHeartbeats 1000000 in
theorem impl_SameParts (d l a b d' l' a' b' : Int) (w : World) : Calls Try.prog 45 #[.agg #[.int .i64 d, .int .i64 l, .int .i64 a, .int .i64 b], .agg #[.int .i64 d', .int .i64 l', .int .i64 a', .int .i64 b']] w fun e w' =>
    e = .returned (.tuple #[.bool (spV d l a b d' l' a' b'), .bool (fieldOk d l a b && fieldOk d' l' a' b')]) ∧ Below w.heap.size w w' := by
  have HV : Hid (spV d l a b d' l' a' b' = (fieldOk d l a b && (fieldOk d' l' a' b' && spL d a b d' a' b'))) := rfl
  cases h1 : fieldOk d l a b
  · go_enter Try.func45, Try.ntmps45
    go_wp2_with (go_at_call 62; refine (impl_IsValidField _ _ _ _ _).mono ?_; rintro e w1 ⟨rfl, hb1⟩)
    go_ret2
    exact ⟨by rw [HV.out, h1]; rfl, (by repeat (first | (with_reducible exact Below.refl _ _) | (with_reducible assumption) | (with_reducible refine balloc ?_ _) | (with_reducible refine bdrew ?_) | (with_reducible refine bdrewN ?_ _) | (with_reducible refine bset ?_ (by first | omega | (simp; done) | (simp; omega)) _) | (with_reducible refine bstep ?_ (by assumption))))⟩
  cases h2 : fieldOk d' l' a' b'
  · go_enter Try.func45, Try.ntmps45
    go_wp2_with fail
    refine (impl_IsValidField _ _ _ _ _).mono ?_
    rintro e w1 ⟨rfl, hb1⟩
    obtain ⟨A1, A2⟩ := blk_new2 hb1
    obtain ⟨c1, z1⟩ := A1.facts
    obtain ⟨c2, z2⟩ := A2.facts
    go_wp2_with (go_at_call 62; refine (impl_IsValidField _ _ _ _ _).mono ?_; rintro e w2 ⟨rfl, hb2⟩)
    go_ret2
    exact ⟨by rw [HV.out, h1, h2]; rfl, (by repeat (first | (with_reducible exact Below.refl _ _) | (with_reducible assumption) | (with_reducible refine balloc ?_ _) | (with_reducible refine bdrew ?_) | (with_reducible refine bdrewN ?_ _) | (with_reducible refine bset ?_ (by first | omega | (simp; done) | (simp; omega)) _) | (with_reducible refine bstep ?_ (by assumption))))⟩
  have hm1 := Lib.hid (ftL_len d a b)
  have hm2 := Lib.hid (ftL_len d' a' b')
  have HP := Lib.hid (spL_eq h1 h2)
  have H1 := Lib.hid h1
  have H2 := Lib.hid h2
  go_enter Try.func45, Try.ntmps45
  go_wp2_with fail
  refine (impl_IsValidField _ _ _ _ _).mono ?_
  rintro e w1 ⟨rfl, hb1⟩
  obtain ⟨A1, A2⟩ := blk_new2 hb1
  obtain ⟨c1, z1⟩ := A1.facts
  obtain ⟨c2, z2⟩ := A2.facts
  have hW0 : Below w.heap.size w w1 := (by repeat (first | (with_reducible exact Below.refl _ _) | (with_reducible assumption) | (with_reducible refine balloc ?_ _) | (with_reducible refine bdrew ?_) | (with_reducible refine bdrewN ?_ _) | (with_reducible refine bset ?_ (by first | omega | (simp; done) | (simp; omega)) _) | (with_reducible refine bstep ?_ (by assumption))))
  go_wp2_with fail
  refine (impl_IsValidField _ _ _ _ _).mono ?_
  rintro e W ⟨rfl, hb2⟩
  have B1 := A1.below hb2
  have B2 := A2.below hb2
  have hW := bstep hW0 hb2
  clear c1 c2 z1 z2 hb1 hb2 A1 A2 hW0
  go_wp2_with fail
  clear h1 h2
  refine wp_region_mildL (C := fun w' => Below W.heap.size W w') (γ := Value × Value) (U := fun v i => if i = 1 then v.1 else if i = 3 then v.2 else if i = 4 then v.1 else v.2)
    (E := fun L v w' => Two W 1 3 (ftL d a b) (ftL d' a' b') L v w' ∧ (L 4 = true → L 1 = true) ∧ (L 5 = true → L 3 = true)) [true, false, true, false, false, false] (undef, undef) (by kernel_rfl) rfl (by kernel_rfl)
    ⟨rfl, rfl, rfl, Nat.le_refl _, fun _ _ => rfl⟩ ⟨⟨(fun h => by cases h), (fun h => by cases h), fun h => by cases h⟩, (fun h => by cases h), fun h => by cases h⟩
    (fun L v p q h1 hE h2 => ⟨h1.trans (h2.mono h1.size), hE.1.keep h2, hE.2⟩)
    (fun L L' v p hl hE => ⟨hE.1.congr (hl 1 (by simp [lidxs])) (hl 3 (by simp [lidxs])), by rw [hl 4 (by simp [lidxs]), hl 1 (by simp [lidxs])]; exact hE.2.1, by rw [hl 5 (by simp [lidxs]), hl 3 (by simp [lidxs])]; exact hE.2.2⟩) ?_
  refine wpMildL_take rfl ⟨_, mild_load _ _ rfl _ rfl _ _ _ (fun w' h => B1.below h) Try.underlying47 rfl (by kernel_rfl), ?_⟩
  simp only [Act.put, List.setIfInBounds_toArray, List.set_cons_zero, List.set_cons_succ]
  refine wpMildL_late ?_
  refine wpMildL_take rfl ⟨_, mild_load _ _ rfl _ rfl _ _ _ (fun w' h => B2.below h) Try.underlying47 rfl (by kernel_rfl), ?_⟩
  simp only [Act.put, List.setIfInBounds_toArray, List.set_cons_zero, List.set_cons_succ]
  refine wpMildL_late ?_
  refine wpMildL_late ?_
  refine wpMildL_late ?_
  refine wpMildL_nil ?_
  refine ⟨?_, fun L v W' hall hC hE => ?_⟩
  · repeat' (first | refine lateAll_skip ?_ | refine lateAll_cons (fun L v W' hC hE hL hdep => ?_) ?_ | exact lateAll_nil)
    all_goals simp only [lateputL, Act.put, List.setIfInBounds_toArray, List.set_cons_zero, List.set_cons_succ]
    all_goals generalize hr : (execOp _ _).run Try.prog W' = r
    · refine late_call (w' := W') (f := 65) (args := #[.agg #[.int .i64 d, .int .i64 l, .int .i64 a, .int .i64 b]]) (by rw [← hr]; go_simp) ((impl_Field_tinctures _ _ _ _ _).mono ?_)
      rintro e w2 ⟨v2, rfl, hi2, hb2⟩
      have h4 : L 4 = false := by
        rw [← Bool.not_eq_true]
        intro h
        rw [hE.2.1 h] at hL
        cases hL
      refine ⟨_, rfl, (v2, v.2), rfl, fun j hj hLj => ?_, hC.trans (hb2.mono hC.size), two_first hE.1 hL hi2 hb2 hC.size, fun _ => by simp, fun h => by simpa using hE.2.2 (by simpa using h)⟩
      simp only [lidxs, List.mem_cons, List.not_mem_nil, or_false] at hj
      rcases hj with rfl | rfl | rfl | rfl
      · rw [hL] at hLj; cases hLj
      · rfl
      · rw [h4] at hLj; cases hLj
      · rfl
    · refine late_call (w' := W') (f := 65) (args := #[.agg #[.int .i64 d', .int .i64 l', .int .i64 a', .int .i64 b']]) (by rw [← hr]; go_simp) ((impl_Field_tinctures _ _ _ _ _).mono ?_)
      rintro e w2 ⟨v2, rfl, hi2, hb2⟩
      have h5 : L 5 = false := by
        rw [← Bool.not_eq_true]
        intro h
        rw [hE.2.2 h] at hL
        cases hL
      refine ⟨_, rfl, (v.1, v2), rfl, fun j hj hLj => ?_, hC.trans (hb2.mono hC.size), two_second hE.1 (hdep 1 (by kernel_rfl)) hi2 hb2 hC.size, fun h => by simpa using hE.2.1 (by simpa using h), fun _ => by simp⟩
      simp only [lidxs, List.mem_cons, List.not_mem_nil, or_false] at hj
      rcases hj with rfl | rfl | rfl | rfl
      · rfl
      · rw [hL] at hLj; cases hLj
      · rfl
      · rw [h5] at hLj; cases hLj
    · exact late_value (u := v.1) (w' := W') (by rw [← hr]; go_simp) ⟨_, rfl, fun _ _ _ => rfl, hC, hE.1.congr (by simp) (by simp), fun _ => by simpa using hdep 1 (by kernel_rfl), fun h => by simpa using hE.2.2 (by simpa using h)⟩
    · exact late_value (u := v.2) (w' := W') (by rw [← hr]; go_simp) ⟨_, rfl, fun _ _ _ => rfl, hC, hE.1.congr (by simp) (by simp), fun h => by simpa using hE.2.1 (by simpa using h), fun _ => by simpa using hdep 3 (by kernel_rfl)⟩
  simp only [lateputL, Act.put, List.setIfInBounds_toArray, List.set_cons_zero, List.set_cons_succ]
  obtain ⟨v1, v2⟩ := v
  have E1 : Ints W' W.heap.size v1 (ftL d a b) := hE.1.2.1 (hall 1 (by decide))
  obtain ⟨E2, ap⟩ := hE.1.2.2 (hall 3 (by decide))
  have E2 : Ints W' W.heap.size v2 (ftL d' a' b') := E2
  have ap : v1.ownBlock = none ∨ v1.ownBlock ≠ v2.ownBlock := ap
  have hW1 := bstep hW hC
  have hWz : w.heap.size ≤ W.heap.size := hW.size
  clear hE hall hC B1 B2 hW
  simp only
  have HS1 := Lib.hid (ftL_pos d a b)
  have HS2 := Lib.hid (ftL_pos d' a' b')
  have HL1 := Lib.hid (ftL_len' d a b)
  have HL2 := Lib.hid (ftL_len' d' a' b')
  go_wp2_with fail
  refine (slices_SortInt _ _ _ _ E1 HS1.out HL1.out).mono ?_
  rintro e w3 ⟨rfl, G1, hr1⟩
  have G2 := E2.kept hr1 (apart_symm' ap)
  have T3 := below_own hW1 E1 hWz hr1
  go_wp2_with fail
  refine (slices_SortInt _ _ _ _ G2 HS2.out HL2.out).mono ?_
  rintro e w4 ⟨rfl, G3, hr2⟩
  have G4 := G1.kept hr2 ap
  have T4 := below_own T3 G2 hWz hr2
  obtain ⟨A, c, rfl, HR⟩ := own_reads G4
  obtain ⟨A', c', rfl, HR'⟩ := own_reads G3
  have HM : Hid ((sortI (ftL d a b)).length ≤ maxLen) := by show _ ≤ _; rw [sortI_len]; exact hm1.out
  clear E1 E2 G1 G2 G3 G4 hr1 hr2 ap
  go_wp2_with (go_at_call 64; refine (slices_EqualInt _ _ _ _ _ _ _ _ _ rfl rfl HM.out HR.out HR'.out).mono ?_; rintro e w5 ⟨rfl, hb5⟩)
  go_ret2
  exact ⟨by rw [HV.out, H1.out, H2.out]; rfl, bstep T4 hb5⟩
end Go.Proofs.Ytmemabeackgioaa
