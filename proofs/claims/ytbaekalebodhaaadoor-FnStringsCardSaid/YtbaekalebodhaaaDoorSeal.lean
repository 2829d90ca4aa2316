/- AppendChecksum, VerifyChecksum. Conditions: as each theorem says. -/
import Derived.Test.YtbaekalebodhaaaDoorRows
import Derived.Test.YtbaekalebodhaaaDoorFmt
import Derived.Test.YtbaekalebodhaaaDoorStr
import Derived.Test.YtbaekalebodhaaaDoorJoin2
import Derived.Test.YtbaekalebodhaaaDoorDrawS2
import Derived.Lib.IndexBytes
namespace Go.Proofs.YtbaekalebodhaaaDoor
set_option linter.unusedSimpArgs false
set_option linter.unusedVariables false
open Go.ChangeShapes Go.WideShapes Go.ChangeAt Go.RowKit Go.Joins

def sealS (s : ByteArray) : ByteArray := (s ++ ⟨#[35]⟩) ++ numS (csum s)
def okSeal (s : ByteArray) : Bool := decide (s.size ≤ 4000) && (!stands s 35 && decide ((sealS s).size ≤ 4000))
def sealV (s : ByteArray) : ByteArray := if okSeal s then sealS s else ⟨#[]⟩
theorem csum_range (s : ByteArray) : 0 ≤ csum s ∧ csum s < 999979 := csl_range _ _ (by decide) (by decide)
theorem sealS_len (s : ByteArray) : (sealS s).size = s.size + 1 + (numS (csum s)).size := by unfold sealS; simp [ByteArray.size_append]; rfl
theorem sealS_size (s : ByteArray) : s.size + 1 < (sealS s).size ∧ (sealS s).size ≤ s.size + 22 := by
  have h := csum_range s
  have := numS_size (n := csum s) (by omega) (by omega)
  have hp : 0 < (numS (csum s)).size := by
    obtain ⟨k, hk⟩ : ∃ k : Nat, csum s = (k : Int) := ⟨(csum s).toNat, by omega⟩
    rw [hk]
    unfold numS
    rw [Lib.itoa_nonneg]
    have := Lib.nDigits_pos k
    simp [ByteArray.size, Lib.decDigits_length]
    omega
  have e := sealS_len s
  omega
def HdS (s : ByteArray) : ByteArray := ⟨(s.data.toList.takeWhile (· != 35)).toArray⟩
theorem cut_fst (c : UInt8) (l : List UInt8) : (if 0 ≤ Lib.indexByte l c then l.take (Lib.indexByte l c).toNat else l) = l.takeWhile (· != c) := by
  induction l with
  | nil => simp [Lib.indexByte]
  | cons b l ih =>
    unfold Lib.indexByte
    by_cases h : b = c
    · simp [h]
    · have hg := Lib.indexByte_ge l c
      by_cases h1 : Lib.indexByte l c = -1
      · rw [h1] at ih
        simp [h, h1] at ih ⊢
        exact ih
      · have h2 : 0 ≤ Lib.indexByte l c := by omega
        rw [if_pos h2] at ih
        have e : (Lib.indexByte l c + 1).toNat = (Lib.indexByte l c).toNat + 1 := by omega
        simp [h, h1]
        rw [if_pos (by omega), e, List.take_succ_cons, ih]
theorem cut_hd (s : ByteArray) : (⟨(Lib.cut s.data.toList [35]).1.toArray⟩ : ByteArray) = HdS s ∧ (Lib.cut s.data.toList [35]).2.2 = stands s 35 := by
  have h := cut_fst 35 s.data.toList
  have hs := ib_stands s.data.toList 35
  unfold Lib.cut HdS stands
  rw [Lib.index_one]
  by_cases h0 : 0 ≤ Lib.indexByte s.data.toList 35
  · rw [if_pos h0] at h ⊢
    rw [← hs]
    exact ⟨by rw [h], by simp [h0]⟩
  · rw [if_neg h0] at h ⊢
    rw [← hs]
    exact ⟨by rw [← h], by simp [h0]⟩
theorem tw_clean (b : UInt8) (p r : List UInt8) (h : p.any (· == b) = false) : (p ++ b :: r).takeWhile (· != b) = p ∧ p.takeWhile (· != b) = p := by
  induction p with
  | nil => simp
  | cons x p ih =>
    simp only [List.any_cons, Bool.or_eq_false_iff] at h
    have hx : (x != b) = true := by simpa [bne] using h.1
    obtain ⟨h1, h2⟩ := ih h.2
    simp [List.takeWhile_cons, hx]
    exact ⟨by simpa using h1, by simpa using h2⟩
theorem split_hd (s : ByteArray) : (splitS s 35).getD 0 ⟨#[]⟩ = HdS s := by
  have hj := congrArg (·.data.toList) (split_join s ⟨#[35]⟩ 35 rfl)
  simp only [jn_toList] at hj
  have hp := split_parts s 35
  have h0 : 0 < (splitS s 35).length := by unfold splitS; simp
  unfold HdS
  match hq : splitS s 35, h0 with
  | [p], _ =>
    rw [hq] at hj hp
    have hc : stands p 35 = false := hp p (by simp)
    have e : p.data.toList = s.data.toList := by simpa [Lib.join] using hj
    apply ba_ext
    simp only [List.getD_cons_zero]
    rw [← e, (tw_clean 35 _ [] hc).2]
  | p :: x :: t, _ =>
    rw [hq] at hj hp
    have hc : stands p 35 = false := hp p (by simp)
    apply ba_ext
    simp only [List.getD_cons_zero]
    rw [← hj]
    simp only [List.map_cons, Lib.join, List.intercalate_cons_cons]
    simp only [List.append_assoc, List.singleton_append, List.cons_append, List.nil_append]
    rw [(tw_clean 35 _ _ hc).1]
end Go.Proofs.YtbaekalebodhaaaDoor
