/- Contracts of the functions that write a finding's text. Conditions: as each theorem says. -/
import Derived.Test.YtmemabeackgioaaRows
import Derived.Test.YtmemabeackgioaaText
import Derived.Deep.RegionHeld3
import Derived.Test.YtmemabeackgioaaMild
namespace Go.Proofs.Ytmemabeackgioaa
set_option linter.unusedSimpArgs false
set_option linter.unusedVariables false
open Go.ChangeShapes Go.WideShapes Go.ChangeAt Go.RowKit

/-- What is known of the world inside the statement that writes the text. -/
abbrev HeldU (w : World) (u l : Int) (w' : World) : Prop := w'.cell? ⟨w.heap.size, 1, none⟩ = some (.int .i64 u) ∧ w'.cell? ⟨w.heap.size, 2, none⟩ = some (.int .i64 l) ∧ Below w.heap.size w w' ∧ w.heap.size < w'.heap.size
theorem held_step {w W w2 : World} {u l : Int} (h : HeldU w u l W) (hb : Below W.heap.size W w2) : HeldU w u l w2 :=
  ⟨(hb.cell (p := ⟨w.heap.size, 1, none⟩) h.2.2.2).trans h.1, (hb.cell (p := ⟨w.heap.size, 2, none⟩) h.2.2.2).trans h.2.1, bstep h.2.2.1 hb, Nat.lt_of_lt_of_le h.2.2.2 hb.size⟩
abbrev HeldP (w : World) (p u l : Int) (w' : World) : Prop := w'.cell? ⟨w.heap.size, 0, none⟩ = some (.int .i64 p) ∧ w'.cell? ⟨w.heap.size, 1, none⟩ = some (.int .i64 u) ∧ w'.cell? ⟨w.heap.size, 2, none⟩ = some (.int .i64 l) ∧ Below w.heap.size w w' ∧ w.heap.size < w'.heap.size
theorem heldp_step {w W w2 : World} {p u l : Int} (h : HeldP w p u l W) (hb : Below W.heap.size W w2) : HeldP w p u l w2 :=
  ⟨(hb.cell (p := ⟨w.heap.size, 0, none⟩) h.2.2.2.2).trans h.1, (hb.cell (p := ⟨w.heap.size, 1, none⟩) h.2.2.2.2).trans h.2.1, (hb.cell (p := ⟨w.heap.size, 2, none⟩) h.2.2.2.2).trans h.2.2.1, bstep h.2.2.2.1 hb, Nat.lt_of_lt_of_le h.2.2.2.2 hb.size⟩
set_option maxHeartbeats 1000000 in
theorem impl_FindingText (p u l : Int) (w : World) : Calls Try.prog 49 #[.agg #[.int .i64 p, .int .i64 u, .int .i64 l]] w fun e w' => e = .returned (.tuple #[.string (ftextV p u l), .bool (findOk p u l)]) ∧ Below w.heap.size w w' := by
  cases h : findOk p u l
  · go_enter Try.func49, Try.ntmps49
    go_wp2_with (go_at_call 85; refine (impl_isFinding _ _ _ _).mono ?_; rintro e w1 ⟨rfl, hb1⟩)
    go_ret2
    exact ⟨by simp [ftextV, h], (by repeat (first | (with_reducible exact Below.refl _ _) | (with_reducible assumption) | (with_reducible refine balloc ?_ _) | (with_reducible refine bdrew ?_) | (with_reducible refine bdrewN ?_ _) | (with_reducible refine bset ?_ (by first | omega | (simp; done) | (simp; omega)) _) | (with_reducible refine bstep ?_ (by assumption))))⟩
  · have h' := h
    unfold findOk at h'
    simp only [Bool.and_eq_true] at h'
    obtain ⟨g1, g2, g3, g4⟩ := h'
    have hx := fstart_at p g1
    simp only [starts, List.map_cons, List.map_nil] at hx
    have z1 := fstart_size p g1
    have z2 := tw_size u g2
    have z3 := tw_size l g3
    obtain ⟨p1, p2⟩ := inB_true.1 g1
    have G2 := Lib.hid g2
    have G3 := Lib.hid g3
    clear g1 g2 g3 g4
    go_enter Try.func49, Try.ntmps49
    go_wp2_with (go_at_call 85; refine (impl_isFinding _ _ _ _).mono ?_; rintro e w1 ⟨rfl, hb1⟩; have B1 := blk_new hb1; obtain ⟨c1, y1⟩ := B1.facts; have y2 : w.heap.size < w1.heap.size + 1 := by omega)
    have s1 : ¬ 9223372036854775807 < (fstart p).size + (tw u).size := by omega
    have s2 : ¬ 9223372036854775807 < (fstart p).size + (tw u).size + 4 := by omega
    have s3 : ¬ 9223372036854775807 < (fstart p).size + (tw u).size + 4 + (tw l).size := by omega
    have s4 : ¬ 9223372036854775807 < (fstart p).size + (tw u).size + 4 + (tw l).size + 1 := by omega
    have hS0 : ∀ o, HeldU w u l (w1.alloc o).drew := fun o => by
      have B2 := B1.alloc o
      exact ⟨B2.cell 1, B2.cell 2, bdrew (balloc (bstep (balloc (Below.refl _ _) _) hb1) _), B2.lt⟩
    go_region_held3 (fun w' => w'.cell? ⟨w.heap.size, 1, none⟩ = some (.int .i64 u) ∧ w'.cell? ⟨w.heap.size, 2, none⟩ = some (.int .i64 l) ∧ Below w.heap.size w w' ∧ w.heap.size < w'.heap.size)
      (first | exact hS0 _ | exact held_step (hS0 _) hb2 | exact held_step (held_step (hS0 _) hb2) hb3)
      (first | (go_at_call_of 70 (Value.int .i64 u); refine (impl_tincture _ G2.out _).mono ?_; rintro e w2 ⟨rfl, hb2⟩) | (go_at_call_of 70 (Value.int .i64 l); refine (impl_tincture _ G3.out _).mono ?_; rintro e w3 ⟨rfl, hb3⟩))
    go_wp2
    go_ret2
    exact ⟨by simp [ftextV, h], (by repeat (first | (with_reducible exact Below.refl _ _) | (with_reducible assumption) | (with_reducible refine balloc ?_ _) | (with_reducible refine bdrew ?_) | (with_reducible refine bdrewN ?_ _) | (with_reducible refine bset ?_ (by first | omega | (simp; done) | (simp; omega)) _) | (with_reducible refine bstep ?_ (by assumption))))⟩
def fsArr : Array Value := ((⟨#[]⟩ :: starts).map Value.string).toArray
theorem fsArr_at (x : Int) (h : inB 1 x 3 = true) : fsArr[x.toNat]? = some (.string (fstart x)) := by
  rcases three h with rfl | rfl | rfl <;> rfl
theorem spec_l8Starts (w : World) : Calls Try.prog 83 #[] w fun e w' => e = .returned (.slice (some ⟨w.heap.size, 0, none⟩) 4 4) ∧ w.alloc (.cells fsArr 9) = w' := by
  go_enter Try.func83, Try.ntmps83
  go_wp2
  go_ret
  exact ⟨rfl, rfl⟩
set_option maxRecDepth 100000 in
set_option maxHeartbeats 1000000 in
theorem spec_FindingText (p u l : Int) (w : World) : Calls Try.prog 48 #[.agg #[.int .i64 p, .int .i64 u, .int .i64 l]] w fun e w' => e = .returned (.tuple #[.string (ftextV p u l), .bool (findOk p u l)]) ∧ Below w.heap.size w w' := by
  cases h : findOk p u l
  · go_enter Try.func48, Try.ntmps48
    go_wp2_with (go_at_call 82; refine (spec_l8Good _ _ _ _).mono ?_; rintro e w1 ⟨rfl, hb1⟩)
    go_ret2
    exact ⟨by simp [ftextV, h], (by repeat (first | (with_reducible exact Below.refl _ _) | (with_reducible assumption) | (with_reducible refine balloc ?_ _) | (with_reducible refine bdrew ?_) | (with_reducible refine bdrewN ?_ _) | (with_reducible refine bset ?_ (by first | omega | (simp; done) | (simp; omega)) _) | (with_reducible refine bstep ?_ (by assumption))))⟩
  · have h' := h
    unfold findOk at h'
    simp only [Bool.and_eq_true] at h'
    obtain ⟨g1, g2, g3, g4⟩ := h'
    have hx := fsArr_at p g1
    have z1 := fstart_size p g1
    have z2 := tw_size u g2
    have z3 := tw_size l g3
    obtain ⟨p1, p2⟩ := inB_true.1 g1
    have G2 := Lib.hid g2
    have G3 := Lib.hid g3
    clear g1 g2 g3 g4
    go_enter Try.func48, Try.ntmps48
    go_wp2_with (go_at_call 82; refine (spec_l8Good _ _ _ _).mono ?_; rintro e w1 ⟨rfl, hb1⟩; have B1 := blk_new hb1; obtain ⟨c1, y1⟩ := B1.facts; have y2 : w.heap.size < w1.heap.size + 1 := by omega)
    have s1 : ¬ 9223372036854775807 < (fstart p).size + (tw u).size := by omega
    have s2 : ¬ 9223372036854775807 < (fstart p).size + (tw u).size + 4 := by omega
    have s3 : ¬ 9223372036854775807 < (fstart p).size + (tw u).size + 4 + (tw l).size := by omega
    have s4 : ¬ 9223372036854775807 < (fstart p).size + (tw u).size + 4 + (tw l).size + 1 := by omega
    have q1 : 0 ≤ p := by omega
    have q2 : p < 4 := by omega
    have hW : Below w.heap.size w w1 := (by repeat (first | (with_reducible exact Below.refl _ _) | (with_reducible assumption) | (with_reducible refine balloc ?_ _) | (with_reducible refine bdrew ?_) | (with_reducible refine bdrewN ?_ _) | (with_reducible refine bset ?_ (by first | omega | (simp; done) | (simp; omega)) _) | (with_reducible refine bstep ?_ (by assumption))))
    clear c1 y1 y2
    have E0 : ∀ (W' : World), Below w1.heap.size w1 W' → (∀ i, W'.cell? ⟨w.heap.size, i, none⟩ = (#[.int .i64 p, .int .i64 u, .int .i64 l] : Array Value)[i]?) := fun W' h => (B1.below h).cell
    have HE := Lib.hid E0
    have HB := Lib.hid B1
    clear E0 B1 hb1
    refine wp_region_mildL (C := fun w' => Below w1.heap.size w1 w') (γ := Nat)
      (U := fun g i => if i = 0 then .slice (some ⟨g, 0, none⟩) 4 4 else if i = 3 then .pointer (some ⟨g, p.toNat, none⟩) else if i = 4 then .string (fstart p) else if i = 8 then .string (fstart p ++ tw u)
        else if i = 9 then .string ((fstart p ++ tw u) ++ ⟨#[32, 111, 110, 32]⟩) else if i = 13 then .string (((fstart p ++ tw u) ++ ⟨#[32, 111, 110, 32]⟩) ++ tw l) else .string ((((fstart p ++ tw u) ++ ⟨#[32, 111, 110, 32]⟩) ++ tw l) ++ ⟨#[46]⟩))
      (E := fun L g w' => (L 3 = true → L 0 = true) ∧ (L 0 = true → Blk w' g 9 fsArr)) [false, true, true, false, false, true, true, true, false, false, true, true, true, false, false, false, true] 0
      (by kernel_rfl) rfl (by kernel_rfl) ⟨rfl, rfl, rfl, Nat.le_refl _, fun _ _ => rfl⟩ ⟨(fun h => by cases h), fun h => by cases h⟩ (fun L g a b h1 hE h2 => ⟨h1.trans (h2.mono h1.size), hE.1, fun h => (hE.2 h).below h2⟩)
      (fun L L' g a hl hE => by rw [hl 0 (by simp [lidxs]), hl 3 (by simp [lidxs])]; exact hE) ?_
    refine wpMildL_late ?_
    refine wpMildL_take rfl ?_
    apply Exists.intro
    refine ⟨fun w' hw' => ?_, ?_⟩
    · go_simp
      with_reducible rfl
    simp only [Act.put, List.setIfInBounds_toArray, List.set_cons_zero, List.set_cons_succ]
    refine wpMildL_take rfl ?_
    apply Exists.intro
    refine ⟨fun w' hw' => ?_, ?_⟩
    · (have hc := HE.out w' hw'; go_simp; with_reducible rfl)
    simp only [Act.put, List.setIfInBounds_toArray, List.set_cons_zero, List.set_cons_succ]
    refine wpMildL_late ?_
    refine wpMildL_late ?_
    refine wpMildL_take rfl ?_
    apply Exists.intro
    refine ⟨fun w' hw' => ?_, ?_⟩
    · go_simp
      with_reducible rfl
    simp only [Act.put, List.setIfInBounds_toArray, List.set_cons_zero, List.set_cons_succ]
    refine wpMildL_take rfl ?_
    apply Exists.intro
    refine ⟨fun w' hw' => ?_, ?_⟩
    · (have hc := HE.out w' hw'; go_simp; with_reducible rfl)
    simp only [Act.put, List.setIfInBounds_toArray, List.set_cons_zero, List.set_cons_succ]
    refine wpMildL_take rfl ?_
    apply Exists.intro
    refine ⟨fun w' hw' => ?_, ?_⟩
    · go_simp
      exact spec_l2Word _ G2.out _
    simp only [Act.put, List.setIfInBounds_toArray, List.set_cons_zero, List.set_cons_succ]
    refine wpMildL_late ?_
    refine wpMildL_late ?_
    refine wpMildL_take rfl ?_
    apply Exists.intro
    refine ⟨fun w' hw' => ?_, ?_⟩
    · go_simp
      with_reducible rfl
    simp only [Act.put, List.setIfInBounds_toArray, List.set_cons_zero, List.set_cons_succ]
    refine wpMildL_take rfl ?_
    apply Exists.intro
    refine ⟨fun w' hw' => ?_, ?_⟩
    · (have hc := HE.out w' hw'; go_simp; with_reducible rfl)
    simp only [Act.put, List.setIfInBounds_toArray, List.set_cons_zero, List.set_cons_succ]
    refine wpMildL_take rfl ?_
    apply Exists.intro
    refine ⟨fun w' hw' => ?_, ?_⟩
    · go_simp
      exact spec_l2Word _ G3.out _
    simp only [Act.put, List.setIfInBounds_toArray, List.set_cons_zero, List.set_cons_succ]
    refine wpMildL_late ?_
    refine wpMildL_late ?_
    refine wpMildL_late ?_
    refine wpMildL_take rfl ?_
    apply Exists.intro
    refine ⟨fun w' hw' => ?_, ?_⟩
    · go_simp
      with_reducible rfl
    simp only [Act.put, List.setIfInBounds_toArray, List.set_cons_zero, List.set_cons_succ]
    refine wpMildL_nil ?_
    refine ⟨?_, fun L g W' hall hC hE => ?_⟩
    · refine lateAll_cons (fun L g W' hC hE hL hdep => ?_) (lateAll_skip (lateAll_skip (lateAll_cons (fun L g W' hC hE hL hdep => ?_) (lateAll_cons (fun L g W' hC hE hL hdep => ?_) (lateAll_skip (lateAll_skip (lateAll_skip (lateAll_cons (fun L g W' hC hE hL hdep => ?_) (lateAll_cons (fun L g W' hC hE hL hdep => ?_) (lateAll_skip (lateAll_skip (lateAll_skip (lateAll_cons (fun L g W' hC hE hL hdep => ?_) (lateAll_cons (fun L g W' hC hE hL hdep => ?_) (lateAll_cons (fun L g W' hC hE hL hdep => ?_) (lateAll_skip lateAll_nil))))))))))))))))
      all_goals simp only [lateputL, Act.put, List.setIfInBounds_toArray, List.set_cons_zero, List.set_cons_succ]
      · generalize hr : (execOp _ _).run Try.prog W' = r
        refine late_call (w' := W') (f := 83) (args := #[]) (by rw [← hr]; go_simp) ((spec_l8Starts _).mono ?_)
        rintro e w2 ⟨rfl, rfl⟩
        have hL3 : L 3 = false := by
          rw [← Bool.not_eq_true]
          intro h
          rw [hE.1 h] at hL
          cases hL
        refine ⟨_, rfl, W'.heap.size, rfl, fun j hj hLj => ?_, hC.alloc hC.size _, fun _ => by simp, fun _ => Blk.new _ _ _⟩
        simp only [lidxs, List.mem_cons, List.not_mem_nil, or_false] at hj
        rcases hj with rfl | rfl | rfl | rfl | rfl | rfl | rfl | rfl
        · rw [hL] at hLj; cases hLj
        · rw [hL3] at hLj; cases hLj
        all_goals rfl
      · have L0 : L 0 = true := hdep 0 (by kernel_rfl)
        have hb : Blk W' g 9 fsArr := hE.2 L0
        have c2 := hb.cell
        have z2 := hb.lt
        generalize hr : (execOp _ _).run Try.prog W' = r
        refine late_value (u := .pointer (some ⟨g, p.toNat, none⟩)) (w' := W') (by rw [← hr]; go_simp) ⟨g, rfl, fun _ _ _ => rfl, hC, fun _ => by simp [L0], fun _ => hb⟩
      · have L0 : L 0 = true := hE.1 (hdep 3 (by kernel_rfl))
        have hb : Blk W' g 9 fsArr := hE.2 L0
        have c2 := hb.cell
        have z2 := hb.lt
        generalize hr : (execOp _ _).run Try.prog W' = r
        refine late_value (u := .string (fstart p)) (w' := W') (by rw [← hr]; go_simp) ⟨g, rfl, fun _ _ _ => rfl, hC, fun _ => by simp [L0], fun _ => hb⟩
      · generalize hr : (execOp _ _).run Try.prog W' = r
        refine late_value (u := .string (fstart p ++ tw u)) (w' := W') (by rw [← hr]; go_simp) ⟨g, rfl, fun _ _ _ => rfl, hC, fun h => by simpa using hE.1 (by simpa using h), fun h => hE.2 (by simpa using h)⟩
      · generalize hr : (execOp _ _).run Try.prog W' = r
        refine late_value (u := .string ((fstart p ++ tw u) ++ ⟨#[32, 111, 110, 32]⟩)) (w' := W') (by rw [← hr]; go_simp) ⟨g, rfl, fun _ _ _ => rfl, hC, fun h => by simpa using hE.1 (by simpa using h), fun h => hE.2 (by simpa using h)⟩
      · generalize hr : (execOp _ _).run Try.prog W' = r
        refine late_value (u := .string (((fstart p ++ tw u) ++ ⟨#[32, 111, 110, 32]⟩) ++ tw l)) (w' := W') (by rw [← hr]; go_simp) ⟨g, rfl, fun _ _ _ => rfl, hC, fun h => by simpa using hE.1 (by simpa using h), fun h => hE.2 (by simpa using h)⟩
      · generalize hr : (execOp _ _).run Try.prog W' = r
        refine late_value (u := .string ((((fstart p ++ tw u) ++ ⟨#[32, 111, 110, 32]⟩) ++ tw l) ++ ⟨#[46]⟩)) (w' := W') (by rw [← hr]; go_simp) ⟨g, rfl, fun _ _ _ => rfl, hC, fun h => by simpa using hE.1 (by simpa using h), fun h => hE.2 (by simpa using h)⟩
      · generalize hr : (execOp _ _).run Try.prog W' = r
        refine late_value (u := .string ((((fstart p ++ tw u) ++ ⟨#[32, 111, 110, 32]⟩) ++ tw l) ++ ⟨#[46]⟩)) (w' := W') (by rw [← hr]; go_simp) ⟨g, rfl, fun _ _ _ => rfl, hC, fun h => by simpa using hE.1 (by simpa using h), fun h => hE.2 (by simpa using h)⟩
    · simp only [lateputL, Act.put, List.setIfInBounds_toArray, List.set_cons_zero, List.set_cons_succ]
      have hWW := bstep hW hC
      clear hE hall HE HB
      go_wp2
      go_ret2
      exact ⟨by simp [ftextV, h], hWW⟩
end Go.Proofs.Ytmemabeackgioaa
