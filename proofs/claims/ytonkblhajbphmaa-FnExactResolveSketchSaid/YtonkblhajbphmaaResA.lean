/- Sketches resolved: lists of the call's own; what is left out takes the next. Conditions: as each theorem says. -/
import Derived.Test.YtonkblhajbphmaaRows
import Derived.Test.YtonkblhajbphmaaResP
import Derived.Test.YtonkblhajbphmaaSkD
namespace Go.Proofs.Ytonkblhajbphmaa
set_option linter.unusedSimpArgs false
set_option linter.unusedVariables false
open Go.ChangeShapes Go.WideShapes Go.ChangeAt Go.RowKit

theorem Ints.at_ {w : World} {B g n c : Nat} {L : List Int} {k : Nat} (h : Ints w B (.slice (some ⟨g, 0, none⟩) n c) L) (hk : k < L.length) : w.cell? ⟨g, k, none⟩ = some (.int .i64 (L.getD k 0)) := by
  obtain ⟨A, c', e, hx⟩ := h.shape
  injection e with e _ _
  subst e
  obtain ⟨q', e, _, _, hc, _⟩ := hx k hk
  injection e with e
  injection e with e
  subst e
  exact hc
theorem Ints.block {w : World} {B : Nat} {v : Value} {L : List Int} {g : Nat} (h : Ints w B v L) (hg : v.ownBlock = some g) : ∃ c, v = .slice (some ⟨g, 0, none⟩) L.length c ∧ B ≤ g ∧ g < w.heap.size := by
  obtain ⟨h1, h2⟩ := World.ownsRow.lt h g hg
  rcases h.2 with ⟨rfl, _⟩ | ⟨g', cap, cur, rfl, _⟩
  · cases hg
  · simp only [Value.ownBlock, Option.some.injEq] at hg
    subst hg
    exact ⟨cap, rfl, h1, h2⟩
theorem Ints.free_ {w : World} {B g n c : Nat} {L : List Int} (h : Ints w B (.slice (some ⟨g, 0, none⟩) n c) L) (k : Nat) : w.frozen? ⟨g, k, none⟩ = false := by
  rcases h.2 with ⟨e, _⟩ | ⟨g', cap', cur, e, _, hg, _⟩
  · cases e
  · injection e with e _ _
    injection e with e
    injection e with e
    subst e
    exact frozen_of_row w g k cur _ hg
theorem Ints.put {w : World} {B g n c : Nat} {L : List Int} (h : Ints w B (.slice (some ⟨g, 0, none⟩) n c) L) (k : Nat) (y : Int) : Ints (w.setCell ⟨g, k, none⟩ (.int .i64 y)) B (.slice (some ⟨g, 0, none⟩) n c) (L.set k y) := by
  have hn : n = L.length := by
    rcases h.2 with ⟨e, _⟩ | ⟨g', cap', cur, e, _⟩
    · cases e
    · injection e
  subst hn
  unfold Ints at h ⊢
  have := (h.stored k (.int .i64 y)).1
  rw [List.length_set, List.map_set]
  exact this
theorem spec_l1Own (g c : Nat) (xs : List Int) (w : World) (B : Nat) (hl : xs.length ≤ 1048576) (hv : Ints w B (.slice (some ⟨g, 0, none⟩) xs.length c) xs) :
    Calls Try.prog 77 #[.slice (some ⟨g, 0, none⟩) xs.length c] w fun e w' => ∃ v, e = .returned v ∧ Ints w' w.heap.size v xs ∧ (∃ q, v.ownBlock = some q) ∧ Below w.heap.size w w' := by
  have HV := Lib.hid hv
  clear hv
  obtain ⟨i0, hi0, hz0, hz1, hz2⟩ := info_parts int_info
  have H0 : Hid (Ints (w.alloc (.cells #[] 3)) w.heap.size (.slice (some ⟨w.heap.size, 0, none⟩) 0 0) []) := ints_lit w [] #[] 0 rfl rfl (by decide)
  go_enter Try.func77, Try.ntmps77
  go_wp2_with (at_builtin; refine wpList_append_own _ rfl _ _ _ rfl w.heap.size 3 i0 (.int .i64 0) 1 8 Try.underlying61 hi0 hz0 hz1 hz2 rfl (by decide) (.slice (some ⟨w.heap.size, 0, none⟩) 0 0) 0 [] rfl H0.out ⟨g, 0, none⟩ xs.length c (xs.map (Value.int .i64)) rfl (by simp) (fun j u hu => by
    rw [Addr.add_mid, Nat.zero_add]
    have hj : j < xs.length := by simpa using (List.getElem?_eq_some_iff.1 hu).1
    have hc := (HV.out.below (balloc (Below.refl _ _) (.cells #[] 3))).at_ hj
    rw [hc]
    simp only [List.getElem?_map, List.getElem?_eq_getElem hj, Option.map_some] at hu
    rw [← hu]
    simp [List.getD_eq_getElem?_getD, hj]) (fun u hu => by simp at hu; obtain ⟨y, _, rfl⟩ := hu; rfl) (by simp only [maxLen]; omega) (by omega) (by simp) ?_; intro v' w1 hi1 hg1 hn1)
  go_ret
  have hi2 : Ints w1 w.heap.size v' xs := by
    unfold Ints
    simpa using hi1
  refine ⟨v', rfl, hi2, ?_, ?_⟩
  · rcases hi2.2 with ⟨e, _⟩ | ⟨q, cap, cur, rfl, _⟩
    · exact absurd (hn1.1 e).1 (by simp)
    · exact ⟨q, rfl⟩
  · exact (balloc (Below.refl w.heap.size w) _).grown hg1 (by simp) (fun k hk => by simp [Value.ownBlock] at hk; omega)
set_option maxHeartbeats 1000000 in
theorem spec_l7Next (v : Value) (O : List Int) (w : World) (B : Nat) (hv : Ints w B v O) (hq : ∃ q, v.ownBlock = some q) (hl : O.length ≤ 1000) : Calls Try.prog 57 #[v] w (RetInts1 (nx O) w) := by
  obtain ⟨q, hq⟩ := hq
  obtain ⟨c, rfl, _, _⟩ := hv.block hq
  have HV := Lib.hid hv
  clear hv hq
  go_enter Try.func57, Try.ntmps57
  go_wp2_with fail
  refine (spec_l1Own q c O _ _ (by omega) HV.out).mono ?_
  rintro e w1 ⟨v1, rfl, hi1, ⟨g, hg⟩, hb1⟩
  obtain ⟨c1, rfl, hBg, hgl⟩ := hi1.block hg
  have H0 : Hid (Ints w1 w.heap.size (.slice (some ⟨g, 0, none⟩) O.length c1) (nxC (fun i => O.getD i 0 == 0) O 0) ∧ Below w.heap.size w w1) := ⟨hi1, hb1⟩
  clear hg hi1 hb1 hgl HV
  go_wp2
  go_loopw [4] (fun i wr => ∃ j : Nat, j ≤ O.length - 1 ∧ i = .int .i64 ((O.length : Int) - 2 - j) ∧ Hid (Ints wr w.heap.size (.slice (some ⟨g, 0, none⟩) O.length c1) (nxC (fun i => O.getD i 0 == 0) O j) ∧ Below w.heap.size w wr)) (fun i _ => (intOf i + 1).toNat)
  case atStart => exact ⟨0, Nat.zero_le _, by go_num, H0⟩
  case round =>
    obtain ⟨j, hj, rfl, hP⟩ := hrel
    clear H0
    by_cases hlt : j + 2 ≤ O.length
    · have hp : (O.length : Int) - 2 - j = ((O.length - 2 - j : Nat) : Int) := by omega
      have HN : Hid ((O.length : Int) - 2 - ((j + 1 : Nat) : Int) = ((O.length - 2 - j : Nat) : Int) - 1) := by show _ = _; omega
      have hlen := nxC_len (fun i => O.getD i 0 == 0) O j
      have hold := nxC_old (fun i => O.getD i 0 == 0) O j (O.length - 2 - j) (by omega)
      have HS : Hid (nxC (fun i => O.getD i 0 == 0) O (j + 1) = if (O.getD (O.length - 2 - j) 0 == 0) = true then (nxC (fun i => O.getD i 0 == 0) O j).set (O.length - 2 - j) ((nxC (fun i => O.getD i 0 == 0) O j).getD (O.length - 2 - j + 1) 0) else nxC (fun i => O.getD i 0 == 0) O j) := rfl
      have hpl : O.length - 2 - j + 1 < O.length := by omega
      have HJ : Hid (j + 1 ≤ O.length - 1) := by show _ ≤ _; omega
      rw [hp]
      generalize hL2 : nxC (fun i => O.getD i 0 == 0) O (j + 1) = L2 at HS
      have HL2 := Lib.hid hL2
      clear hL2
      generalize nxC (fun i => O.getD i 0 == 0) O j = L at *
      generalize O.length - 2 - j = p at *
      have d0 := hP.out.1.at_ (k := p) (by omega)
      have d1 := hP.out.1.at_ (k := p + 1) (by omega)
      have f0 := hP.out.1.free_ p
      rw [hold] at d0
      have HPUT := Lib.hid (hP.out.1.put p (L.getD (p + 1) 0))
      have HBB : Hid (Below w.heap.size w (wr.setCell ⟨g, p, none⟩ (.int .i64 (L.getD (p + 1) 0)))) := bset hP.out.2 hBg _
      have hpl' : p + 1 < O.length := hpl
      clear hold hp
      generalize O.getD p 0 = y at *
      generalize L.getD (p + 1) 0 = z at *
      cases hy : (y == 0)
      · rw [hy] at HS
        go_wp2
        go_roundw
        case rel => exact ⟨j + 1, HJ.out, by rw [HN.out], by show _ ∧ _; rw [HL2.out, HS.out]; exact hP.out⟩
        case measure => first | (simp [intOf]; done) | (simp [intOf]; omega)
      · rw [hy] at HS
        go_wp2
        go_roundw
        case rel => exact ⟨j + 1, HJ.out, by rw [HN.out], by show _ ∧ _; rw [HL2.out, HS.out]; exact ⟨HPUT.out, HBB.out⟩⟩
        case measure => first | (simp [intOf]; done) | (simp [intOf]; omega)
    · obtain rfl : j = O.length - 1 := by omega
      have hneg : (O.length : Int) - 2 - ((O.length - 1 : Nat) : Int) < 0 := by omega
      generalize (O.length : Int) - 2 - ((O.length - 1 : Nat) : Int) = z at *
      go_wp2
      go_ret
      exact ⟨_, rfl, hP.out.1, hP.out.2⟩
end Go.Proofs.Ytonkblhajbphmaa
