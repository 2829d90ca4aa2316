/- A finding read out of its text. Conditions: as each theorem says. -/
import Derived.Test.YtmemabeackgioaaRows
import Derived.Test.YtmemabeackgioaaFinding
namespace Go.Proofs.Ytmemabeackgioaa
set_option linter.unusedSimpArgs false
set_option linter.unusedVariables false
open Go.ChangeShapes Go.WideShapes Go.ChangeAt Go.RowKit

def tP (t : Nat) : Int := ((t / 81 : Nat) : Int) + 1
def tU (t : Nat) : Int := ((t / 9 % 9 : Nat) : Int) + 1
def tL (t : Nat) : Int := ((t % 9 : Nat) : Int) + 1
def hit (s : ByteArray) (p u l : Int) : Bool := findOk p u l && (ftextV p u l).toList == s.toList
/-- The number of the first finding from number t on whose text is s. -/
def srch (s : ByteArray) (t : Nat) : Option Nat := if h : t < 243 then (if hit s (tP t) (tU t) (tL t) then some t else srch s (t + 1)) else none
termination_by 243 - t
theorem srch_end (s : ByteArray) : srch s 243 = none := by rw [srch]; rfl
theorem srch_hit (s : ByteArray) (P U L : Nat) (hP : P < 3) (hU : U < 9) (hL : L < 9) (h : hit s ((P : Int) + 1) ((U : Int) + 1) ((L : Int) + 1) = true) : srch s (81 * P + 9 * U + L) = some (81 * P + 9 * U + L) := by
  have e1 : tP (81 * P + 9 * U + L) = (P : Int) + 1 := by unfold tP; omega
  have e2 : tU (81 * P + 9 * U + L) = (U : Int) + 1 := by unfold tU; omega
  have e3 : tL (81 * P + 9 * U + L) = (L : Int) + 1 := by unfold tL; omega
  rw [srch, dif_pos (by omega), e1, e2, e3, if_pos h]
theorem srch_miss (s : ByteArray) (P U L : Nat) (hP : P < 3) (hU : U < 9) (hL : L < 9) (h : hit s ((P : Int) + 1) ((U : Int) + 1) ((L : Int) + 1) = false) : srch s (81 * P + 9 * U + L) = srch s (81 * P + 9 * U + (L + 1)) := by
  have e1 : tP (81 * P + 9 * U + L) = (P : Int) + 1 := by unfold tP; omega
  have e2 : tU (81 * P + 9 * U + L) = (U : Int) + 1 := by unfold tU; omega
  have e3 : tL (81 * P + 9 * U + L) = (L : Int) + 1 := by unfold tL; omega
  rw [srch, dif_pos (by omega), e1, e2, e3, if_neg (by rw [h]; simp), Nat.add_assoc]
def pfO (s : ByteArray) : Bool := (srch s 0).isSome
def pfP (s : ByteArray) : Int := ((srch s 0).map tP).getD 0
def pfU (s : ByteArray) : Int := ((srch s 0).map tU).getD 0
def pfL (s : ByteArray) : Int := ((srch s 0).map tL).getD 0
theorem pf_found {s : ByteArray} {P U L : Nat} (hP : P < 3) (hU : U < 9) (hL : L < 9) (h : srch s 0 = some (81 * P + 9 * U + L)) : pfO s = true ∧ pfP s = (P : Int) + 1 ∧ pfU s = (U : Int) + 1 ∧ pfL s = (L : Int) + 1 := by
  have e1 : tP (81 * P + 9 * U + L) = (P : Int) + 1 := by unfold tP; omega
  have e2 : tU (81 * P + 9 * U + L) = (U : Int) + 1 := by unfold tU; omega
  have e3 : tL (81 * P + 9 * U + L) = (L : Int) + 1 := by unfold tL; omega
  refine ⟨by unfold pfO; rw [h]; rfl, ?_, ?_, ?_⟩
  · unfold pfP; rw [h, ← e1]; rfl
  · unfold pfU; rw [h, ← e2]; rfl
  · unfold pfL; rw [h, ← e3]; rfl
theorem pf_none {s : ByteArray} (h : srch s 0 = none) : pfO s = false ∧ pfP s = 0 ∧ pfU s = 0 ∧ pfL s = 0 := by
  refine ⟨by unfold pfO; rw [h]; rfl, by unfold pfP; rw [h]; rfl, by unfold pfU; rw [h]; rfl, by unfold pfL; rw [h]; rfl⟩
theorem laws_eqFinding (a b c : Int) (w : World) : Calls Try.prog 21 #[.agg #[.int .i64 a, .int .i64 b, .int .i64 c], .agg #[.int .i64 a, .int .i64 b, .int .i64 c]] w fun e w' => e = .returned (.bool true) ∧ Below w.heap.size w w' := by
  go_enter Try.func21, Try.ntmps21
  go_wp2
  go_ret
  exact ⟨rfl, (by repeat (first | (with_reducible exact Below.refl _ _) | (with_reducible assumption) | (with_reducible refine balloc ?_ _) | (with_reducible refine bdrew ?_) | (with_reducible refine bdrewN ?_ _) | (with_reducible refine bset ?_ (by first | omega | (simp; done) | (simp; omega)) _) | (with_reducible refine bstep ?_ (by assumption))))⟩
set_option maxHeartbeats 2000000 in
theorem impl_ParseFinding (s : ByteArray) (w : World) : Calls Try.prog 20 #[.string s] w fun e w' => e = .returned (.tuple #[.agg #[.int .i64 (pfP s), .int .i64 (pfU s), .int .i64 (pfL s)], .bool (pfO s)]) ∧ Below w.heap.size w w' := by
  go_enter Try.func20, Try.ntmps20
  go_wp2
  go_loopw [4] (fun p wr => ∃ P : Nat, P ≤ 3 ∧ p = .int .i64 ((P : Int) + 1) ∧ Hid (srch s 0 = srch s (81 * P)) ∧ Hid (Below w.heap.size w wr) ∧ Hid (Blk wr w.heap.size 30 #[.int .i64 0, .int .i64 0, .int .i64 0])) (fun p _ => 4 - (intOf p).toNat)
  case atStart => exact ⟨0, Nat.zero_le _, rfl, rfl, balloc (Below.refl _ _) _, Blk.new _ _ _⟩
  case round =>
    obtain ⟨P, hP, rfl, hs, hb, hB⟩ := hrel
    obtain ⟨wo, rfl⟩ : ∃ wo : World, wo = wr := ⟨_, rfl⟩
    by_cases hlP : P < 3
    · have dP : decide ((P : Int) + 1 ≤ 3) = true := by simp; omega
      go_wp2
      go_loopw [5] (fun u wr => ∃ U : Nat, U ≤ 9 ∧ u = .int .i64 ((U : Int) + 1) ∧ Hid (srch s 0 = srch s (81 * P + 9 * U)) ∧ Hid (Below w.heap.size w wr) ∧ Hid (Blk wr w.heap.size 30 #[.int .i64 0, .int .i64 0, .int .i64 0])) (fun u _ => 10 - (intOf u).toNat)
      case atStart => exact ⟨0, Nat.zero_le _, rfl, hs, hb, hB⟩
      case round =>
        obtain ⟨U, hU, rfl, hs2, hb2, hB2⟩ := hrel
        obtain ⟨wp, rfl⟩ : ∃ wo : World, wo = wr := ⟨_, rfl⟩
        by_cases hlU : U < 9
        · have dU : decide ((U : Int) + 1 ≤ 9) = true := by simp; omega
          go_wp2
          go_loopw [6] (fun l wr => ∃ L : Nat, L ≤ 9 ∧ l = .int .i64 ((L : Int) + 1) ∧ Hid (srch s 0 = srch s (81 * P + 9 * U + L)) ∧ Hid (Below w.heap.size w wr) ∧ Hid (Blk wr w.heap.size 30 #[.int .i64 0, .int .i64 0, .int .i64 0])) (fun l _ => 10 - (intOf l).toNat)
          case atStart => exact ⟨0, Nat.zero_le _, rfl, hs2, hb2, hB2⟩
          case round =>
            obtain ⟨L, hL, rfl, hs3, hb3, hB3⟩ := hrel
            obtain ⟨wq, rfl⟩ : ∃ wo : World, wo = wr := ⟨_, rfl⟩
            by_cases hlL : L < 9
            · have HIT : Hid (hit s ((P : Int) + 1) ((U : Int) + 1) ((L : Int) + 1) = (findOk ((P : Int) + 1) ((U : Int) + 1) ((L : Int) + 1) && (ftextV ((P : Int) + 1) ((U : Int) + 1) ((L : Int) + 1)).toList == s.toList)) := rfl
              go_wp2_with fail
              refine (impl_FindingText _ _ _ _).mono ?_
              rintro e w1 ⟨rfl, hb1⟩
              have BX := blk_new hb1
              have B0 := (hB3.out.alloc (.cells #[.int .i64 ((P : Int) + 1), .int .i64 ((U : Int) + 1), .int .i64 ((L : Int) + 1)] 30)).below hb1
              have T1 := bstep (balloc hb3.out _) hb1
              obtain ⟨c1, f1, z1⟩ := BX.all
              obtain ⟨c2, f2, z2⟩ := B0.all
              have HB0 := Lib.hid B0
              have HT1 := Lib.hid T1
              clear BX B0 T1 hb1
              generalize hok : findOk ((P : Int) + 1) ((U : Int) + 1) ((L : Int) + 1) = ok at *
              generalize htx : ftextV ((P : Int) + 1) ((U : Int) + 1) ((L : Int) + 1) = tx at *
              clear hok htx
              cases ok
              · go_wp2
                go_roundw
                case rel => exact ⟨L + 1, by omega, by go_num, by show _ = _; rw [hs3.out, srch_miss s P U L hlP hlU hlL HIT.out], HT1, HB0⟩
                case measure => simp [intOf]; omega
              · cases he : (tx.toList == s.toList)
                · go_wp2
                  go_roundw
                  case rel => exact ⟨L + 1, by omega, by go_num, by show _ = _; rw [hs3.out, srch_miss s P U L hlP hlU hlL (by rw [HIT.out, he]; rfl)], HT1, HB0⟩
                  case measure => simp [intOf]; omega
                · have HF := Lib.hid (pf_found hlP hlU hlL (hs3.out.trans (srch_hit s P U L hlP hlU hlL (by rw [HIT.out, he]; rfl))))
                  go_wp2
                  refine bodyPost_ret (v := .tuple #[.agg #[.int .i64 ((P : Int) + 1), .int .i64 ((U : Int) + 1), .int .i64 ((L : Int) + 1)], .bool true]) (by simp [results, Try.results20, go_sem, c1, c2, f1, f2, z1, z2]) rfl ?_
                  exact ⟨by rw [HF.out.1, HF.out.2.1, HF.out.2.2.1, HF.out.2.2.2], bset (bset (bset HT1.out (Nat.le_refl _) _) (Nat.le_refl _) _) (Nat.le_refl _) _⟩
            · obtain rfl : L = 9 := by omega
              go_wp2
              go_roundw
              case rel => exact ⟨U + 1, by omega, by go_num, hs3, hb3, hB3⟩
              case measure => simp [intOf]; omega
        · obtain rfl : U = 9 := by omega
          go_wp2
          go_roundw
          case rel => exact ⟨P + 1, by omega, by go_num, hs2, hb2, hB2⟩
          case measure => simp [intOf]; omega
    · obtain rfl : P = 3 := by omega
      obtain ⟨c2, f2, z2⟩ := hB.out.all
      have HF := Lib.hid (pf_none (hs.out.trans (srch_end s)))
      go_wp2
      refine bodyPost_ret (v := .tuple #[.agg #[.int .i64 0, .int .i64 0, .int .i64 0], .bool false]) (by simp [results, Try.results20, go_sem, c2, f2, z2]) rfl ?_
      exact ⟨by rw [HF.out.1, HF.out.2.1, HF.out.2.2.1, HF.out.2.2.2], bset (bset (bset hb.out (Nat.le_refl _) _) (Nat.le_refl _) _) (Nat.le_refl _) _⟩
set_option maxHeartbeats 2000000 in
theorem spec_ParseFinding (s : ByteArray) (w : World) : Calls Try.prog 19 #[.string s] w fun e w' => e = .returned (.tuple #[.agg #[.int .i64 (pfP s), .int .i64 (pfU s), .int .i64 (pfL s)], .bool (pfO s)]) ∧ Below w.heap.size w w' := by
  go_enter Try.func19, Try.ntmps19
  go_wp2
  go_loopw [4] (fun p wr => ∃ P : Nat, P ≤ 3 ∧ p = .int .i64 ((P : Int) + 1) ∧ Hid (srch s 0 = srch s (81 * P)) ∧ Hid (Below w.heap.size w wr) ∧ Hid (Blk wr w.heap.size 30 #[.int .i64 0, .int .i64 0, .int .i64 0])) (fun p _ => 4 - (intOf p).toNat)
  case atStart => exact ⟨0, Nat.zero_le _, rfl, rfl, balloc (Below.refl _ _) _, Blk.new _ _ _⟩
  case round =>
    obtain ⟨P, hP, rfl, hs, hb, hB⟩ := hrel
    obtain ⟨wo, rfl⟩ : ∃ wo : World, wo = wr := ⟨_, rfl⟩
    by_cases hlP : P < 3
    · have dP : decide ((P : Int) + 1 ≤ 3) = true := by simp; omega
      go_wp2
      go_loopw [5] (fun u wr => ∃ U : Nat, U ≤ 9 ∧ u = .int .i64 ((U : Int) + 1) ∧ Hid (srch s 0 = srch s (81 * P + 9 * U)) ∧ Hid (Below w.heap.size w wr) ∧ Hid (Blk wr w.heap.size 30 #[.int .i64 0, .int .i64 0, .int .i64 0])) (fun u _ => 10 - (intOf u).toNat)
      case atStart => exact ⟨0, Nat.zero_le _, rfl, hs, hb, hB⟩
      case round =>
        obtain ⟨U, hU, rfl, hs2, hb2, hB2⟩ := hrel
        obtain ⟨wp, rfl⟩ : ∃ wo : World, wo = wr := ⟨_, rfl⟩
        by_cases hlU : U < 9
        · have dU : decide ((U : Int) + 1 ≤ 9) = true := by simp; omega
          go_wp2
          go_loopw [6] (fun l wr => ∃ L : Nat, L ≤ 9 ∧ l = .int .i64 ((L : Int) + 1) ∧ Hid (srch s 0 = srch s (81 * P + 9 * U + L)) ∧ Hid (Below w.heap.size w wr) ∧ Hid (Blk wr w.heap.size 30 #[.int .i64 0, .int .i64 0, .int .i64 0])) (fun l _ => 10 - (intOf l).toNat)
          case atStart => exact ⟨0, Nat.zero_le _, rfl, hs2, hb2, hB2⟩
          case round =>
            obtain ⟨L, hL, rfl, hs3, hb3, hB3⟩ := hrel
            obtain ⟨wq, rfl⟩ : ∃ wo : World, wo = wr := ⟨_, rfl⟩
            by_cases hlL : L < 9
            · have HIT : Hid (hit s ((P : Int) + 1) ((U : Int) + 1) ((L : Int) + 1) = (findOk ((P : Int) + 1) ((U : Int) + 1) ((L : Int) + 1) && (ftextV ((P : Int) + 1) ((U : Int) + 1) ((L : Int) + 1)).toList == s.toList)) := rfl
              go_wp2_with fail
              refine (spec_FindingText _ _ _ _).mono ?_
              rintro e w1 ⟨rfl, hb1⟩
              have BX := blk_new hb1
              have B0 := (hB3.out.alloc (.cells #[.int .i64 ((P : Int) + 1), .int .i64 ((U : Int) + 1), .int .i64 ((L : Int) + 1)] 30)).below hb1
              have T1 := bstep (balloc hb3.out _) hb1
              obtain ⟨c1, f1, z1⟩ := BX.all
              obtain ⟨c2, f2, z2⟩ := B0.all
              have HB0 := Lib.hid B0
              have HT1 := Lib.hid T1
              clear BX B0 T1 hb1
              generalize hok : findOk ((P : Int) + 1) ((U : Int) + 1) ((L : Int) + 1) = ok at *
              generalize htx : ftextV ((P : Int) + 1) ((U : Int) + 1) ((L : Int) + 1) = tx at *
              clear hok htx
              cases ok
              · go_wp2
                go_roundw
                case rel => exact ⟨L + 1, by omega, by go_num, by show _ = _; rw [hs3.out, srch_miss s P U L hlP hlU hlL HIT.out], HT1, HB0⟩
                case measure => simp [intOf]; omega
              · cases he : (tx.toList == s.toList)
                · go_wp2
                  go_roundw
                  case rel => exact ⟨L + 1, by omega, by go_num, by show _ = _; rw [hs3.out, srch_miss s P U L hlP hlU hlL (by rw [HIT.out, he]; rfl)], HT1, HB0⟩
                  case measure => simp [intOf]; omega
                · have HF := Lib.hid (pf_found hlP hlU hlL (hs3.out.trans (srch_hit s P U L hlP hlU hlL (by rw [HIT.out, he]; rfl))))
                  go_wp2
                  refine bodyPost_ret (v := .tuple #[.agg #[.int .i64 ((P : Int) + 1), .int .i64 ((U : Int) + 1), .int .i64 ((L : Int) + 1)], .bool true]) (by simp [results, Try.results19, go_sem, c1, c2, f1, f2, z1, z2]) rfl ?_
                  exact ⟨by rw [HF.out.1, HF.out.2.1, HF.out.2.2.1, HF.out.2.2.2], bset (bset (bset HT1.out (Nat.le_refl _) _) (Nat.le_refl _) _) (Nat.le_refl _) _⟩
            · obtain rfl : L = 9 := by omega
              go_wp2
              go_roundw
              case rel => exact ⟨U + 1, by omega, by go_num, hs3, hb3, hB3⟩
              case measure => simp [intOf]; omega
        · obtain rfl : U = 9 := by omega
          go_wp2
          go_roundw
          case rel => exact ⟨P + 1, by omega, by go_num, hs2, hb2, hB2⟩
          case measure => simp [intOf]; omega
    · obtain rfl : P = 3 := by omega
      obtain ⟨c2, f2, z2⟩ := hB.out.all
      have HF := Lib.hid (pf_none (hs.out.trans (srch_end s)))
      go_wp2
      refine bodyPost_ret (v := .tuple #[.agg #[.int .i64 0, .int .i64 0, .int .i64 0], .bool false]) (by simp [results, Try.results19, go_sem, c2, f2, z2]) rfl ?_
      exact ⟨by rw [HF.out.1, HF.out.2.1, HF.out.2.2.1, HF.out.2.2.2], bset (bset (bset hb.out (Nat.le_refl _) _) (Nat.le_refl _) _) (Nat.le_refl _) _⟩
end Go.Proofs.Ytmemabeackgioaa
