/- Slices of strings of the call's own, and the laws' helpers over them. Conditions: as each theorem says. -/
import Derived.Test.YtbaekalebodhaaaRows
import Derived.Test.YtbaekalebodhaaaOwn
import Derived.Test.YtbaekalebodhaaaGroup
import Derived.Test.YtbaekalebodhaaaMild
import Derived.Laws.BytesArg
namespace Go.Proofs.Ytbaekalebodhaaa
set_option linter.unusedSimpArgs false
set_option linter.unusedVariables false
open Go.ChangeShapes Go.WideShapes Go.ChangeAt Go.RowKit

def Strs (w : World) (B : Nat) (v : Value) (xs : List ByteArray) : Prop := w.ownsRow B 9 1 v xs.length (xs.map Value.string)
section
variable {w w' : World} {B : Nat} {v : Value} {xs : List ByteArray}
theorem Strs.below (h : Strs w B v xs) (hb : Below w.heap.size w w') : Strs w' B v xs := own_below h hb
theorem Strs.base {B' : Nat} (h : Strs w B v xs) (hB : B' ≤ B) : Strs w B' v xs := own_base h hB
theorem Strs.kept {v1 : Value} (h : Strs w B v xs) (hg : w.grownBy w' v1.ownBlock) (hne : v.ownBlock = none ∨ v.ownBlock ≠ v1.ownBlock) : Strs w' B v xs := World.ownsRow.kept h hg hne
theorem Strs.drewN (h : Strs w B v xs) (n : Nat) : Strs (w.drewN n) B v xs := h
theorem Strs.nil (w : World) (B : Nat) : Strs w B (.slice none 0 0) [] := World.ownsRow_nil _ _ _ _
theorem Strs.len (h : Strs w B v xs) : xs.length ≤ maxLen := by
  rcases h.2 with ⟨_, h0⟩ | ⟨g, cap, cur, _, _, _, hn, hm, _⟩
  · omega
  · omega
theorem Strs.shape (h : Strs w B v xs) : ∃ A c, v = .slice A xs.length c ∧ ∀ k, k < xs.length → ∃ g, A = some ⟨g, 0, none⟩ ∧ B ≤ g ∧ g < w.heap.size ∧ w.cell? ⟨g, k, none⟩ = some (.string (xs.getD k ⟨#[]⟩)) ∧ w.frozen? ⟨g, k, none⟩ = false := by
  have h' := h
  unfold Strs at h'
  rcases h.2 with ⟨rfl, h0⟩ | ⟨g, cap, cur, rfl, hB, hg, _⟩
  · exact ⟨none, 0, by rw [h0], fun k hk => by omega⟩
  · refine ⟨some ⟨g, 0, none⟩, cap, rfl, fun k hk => ⟨g, rfl, hB, (Array.getElem?_eq_some_iff.1 hg).1, ?_, h'.frozenAt k⟩⟩
    rw [h'.cellAt k (by omega)]
    simp [List.getD_eq_getElem?_getD, hk]
theorem strs_lit (w : World) (xs : List ByteArray) (cs : Array Value) (n : Nat) (hn : n = xs.length) (hcs : cs = (xs.map Value.string).toArray) (hm : xs.length ≤ maxLen) :
    Strs (w.alloc (.cells cs 9)) w.heap.size (.slice (some ⟨w.heap.size, 0, none⟩) n n) xs := by
  subst hn hcs
  have := World.ownsRow_lit (base := w.heap.size) (e := 9) (size := 1) w (xs.map Value.string).toArray xs.length (Nat.le_refl _) hm (by simp)
  simpa [Strs] using this
end
/-- What a function of the program that returns a slice of integers and a bool has done. -/
def RetStrs (ok : Bool) (xs : List ByteArray) (w : World) (e : Ending) (w' : World) : Prop := ∃ v, e = .returned (.tuple #[v, .bool ok]) ∧ Strs w' w.heap.size v xs ∧ Below w.heap.size w w'
/-- .. that returns a slice of integers alone. -/
def RetStrs1 (xs : List ByteArray) (w : World) (e : Ending) (w' : World) : Prop := ∃ v, e = .returned v ∧ Strs w' w.heap.size v xs ∧ Below w.heap.size w w'

def attV (k : Int) : List ByteArray := if inB 1 k 8 then att k else []
theorem att_len' (k : Int) : (att k).length ≤ 2 := by unfold att; repeat (first | split | decide)
theorem attV_len (k : Int) : (attV k).length ≤ 1048576 := by
  have := att_len' k
  unfold attV
  split <;> simp
  omega
/-- The digits of a number, ahead of a text. -/
def mtl (n : Nat) (acc : List UInt8) : List UInt8 := if h : n = 0 then acc else mtl (n / 10) ((48 + UInt8.ofNat (n % 10)) :: acc)
termination_by n
decreasing_by exact Nat.div_lt_self (Nat.pos_of_ne_zero h) (by omega)
theorem mtl_zero (acc : List UInt8) : mtl 0 acc = acc := by rw [mtl]; simp
theorem mtl_pos (n : Nat) (acc : List UInt8) (h : 0 < n) : mtl n acc = mtl (n / 10) ((48 + UInt8.ofNat (n % 10)) :: acc) := by rw [mtl]; simp [Nat.ne_of_gt h]
def mtext (k : Nat) : ByteArray := if k = 0 then ⟨#[109, 48]⟩ else ⟨#[109]⟩ ++ ⟨(mtl k []).toArray⟩
theorem conv_one (w : World) (n : Int) : (convert 32 9 (.slice (some ⟨w.heap.size, 0, none⟩) 1 1)).run Try.prog (w.alloc (.cells #[.int .u8 n] 5)) = .ok (.string ⟨#[UInt8.ofNat n.toNat]⟩) (w.alloc (.cells #[.int .u8 n] 5)) := by
  have := run_convert_bytes_arg (P := Try.prog) (w.alloc (.cells #[.int .u8 n] 5)) 32 5 Try.underlying32 Try.underlying5 w.heap.size 0 1 1 [n] rfl (fun i hi => by
    have : i = 0 := by omega
    subst this
    simp) 9 Try.underlying9
  rw [this]
  rfl
set_option maxHeartbeats 1000000 in
theorem laws_markText (k : Nat) (w : World) (hk : k ≤ 4194304) : Calls Try.prog 22 #[.int .i64 (k : Int)] w fun e w' => e = .returned (.string (mtext k)) ∧ Below w.heap.size w w' := by
  by_cases h0 : k = 0
  · subst h0
    go_enter Try.func22, Try.ntmps22
    go_wp2
    go_ret
    exact ⟨rfl, (by repeat (first | (with_reducible exact Below.refl _ _) | (with_reducible assumption) | (with_reducible refine balloc ?_ _) | (with_reducible refine bdrew ?_) | (with_reducible refine bdrewN ?_ _) | (with_reducible refine bset ?_ (by first | omega | (simp; done) | (simp; omega)) _) | (with_reducible refine bstep ?_ (by assumption))))⟩
  · have hm : Hid (mtext k = ⟨#[109]⟩ ++ ⟨(mtl k []).toArray⟩) := if_neg h0
    have hp : (0 : Int) < (k : Int) := by omega
    have HK := Lib.hid hk
    clear hk h0
    have kc := conv_one
    go_enter Try.func22, Try.ntmps22
    go_wp2
    go_loopw [0, 3] (fun n s wr => ∃ (j : Nat) (t : List UInt8), n = .int .i64 (j : Int) ∧ s = .string ⟨t.toArray⟩ ∧ j + t.length ≤ k ∧ Hid (mtl j t = mtl k []) ∧ Hid (Below w.heap.size w wr)) (fun n _ _ => (intOf n).toNat)
    case atStart => exact ⟨k, [], rfl, rfl, by simp, rfl, Below.refl _ _⟩
    case round =>
      obtain ⟨j, t, rfl, rfl, hjt, hm2, hb⟩ := hrel
      by_cases hlt : 0 < j
      · have s1 : ¬ 9223372036854775807 < 1 + t.length := by have := HK.out; omega
        have hn : j / 10 + (t.length + 1) ≤ k := by omega
        have HM : Hid (mtl (j / 10) ((48 + UInt8.ofNat (j % 10)) :: t) = mtl k []) := (mtl_pos j t hlt).symm.trans hm2.out
        have HN := Lib.hid hn
        have hjm : j ≤ 9223372036854775807 := by have := HK.out; omega
        clear hjt hn
        go_wp2_with fail
        go_roundw
        case rel =>
          have HB : Below w.heap.size w (wr.alloc (.cells #[.int .u8 (48 + (j : Int) % 10)] 5)) := balloc hb.out _
          refine ⟨j / 10, (48 + UInt8.ofNat (j % 10)) :: t, by go_num, ?_, HN.out, HM, HB⟩
          congr 1
        case measure => simp [intOf]; omega
      · obtain rfl : j = 0 := by omega
        have s1 : ¬ 9223372036854775807 < 1 + t.length := by have := HK.out; omega
        clear hjt
        go_wp2
        go_ret
        exact ⟨by rw [hm.out, ← hm2.out, mtl_zero]; rfl, hb.out⟩
theorem laws_eqStringS (v u : Value) (xs : List ByteArray) (w : World) (B B' : Nat) (hv : Strs w B v xs) (hu : Strs w B' u xs) : Calls Try.prog 8 #[v, u] w fun e w' => e = .returned (.bool true) ∧ Below w.heap.size w w' := by
  have hm := hv.len
  unfold maxLen at hm
  obtain ⟨A, c, rfl, ha⟩ := hv.shape
  obtain ⟨A', c', rfl, ha'⟩ := hu.shape
  have HA := Lib.hid ha
  have HA' := Lib.hid ha'
  clear ha ha' hv hu
  go_enter Try.func8, Try.ntmps8
  go_wp2
  go_loopw [5] (fun i wr => ∃ k : Nat, k ≤ xs.length ∧ i = .int .i64 k ∧ Below w.heap.size w wr) (fun i _ => xs.length - (intOf i).toNat)
  case atStart => exact ⟨0, Nat.zero_le _, rfl, Below.refl _ _⟩
  case round =>
    obtain ⟨k, hk, rfl, hb⟩ := hrel
    by_cases hlt : k < xs.length
    · obtain ⟨g, rfl, _, hg, hc, hf⟩ := HA.out k hlt
      obtain ⟨g', rfl, _, hg', hc', hf'⟩ := HA'.out k hlt
      have c1 := (hb.cell (p := ⟨g, k, none⟩) hg).trans hc
      have c2 := (hb.cell (p := ⟨g', k, none⟩) hg').trans hc'
      clear hc hc' hf hf'
      generalize xs.getD k ⟨#[]⟩ = x at *
      go_wp2
      go_quiet (fail)
      go_wp2
      go_roundw
      case rel => exact ⟨k + 1, by omega, by go_num, below_drewN hb _⟩
      case measure => simp [intOf]; omega
    · go_wp2
      go_ret
      exact ⟨rfl, hb⟩
def smarks (k n : Nat) : List ByteArray := (List.range n).map fun i => mtext (k + i)
theorem smarks_length (k n : Nat) : (smarks k n).length = n := by simp [smarks]
theorem smarks_getD (k n i : Nat) (h : i < n) : (smarks k n).getD i ⟨#[]⟩ = mtext (k + i) := by simp [smarks, List.getD_eq_getElem?_getD, h]
theorem smarks_set (k : Nat) (xs : List ByteArray) (j : Nat) (h : j < xs.length) :
    ((smarks k j ++ xs.drop j).map Value.string).set j (.string (mtext (k + j))) = (smarks k (j + 1) ++ xs.drop (j + 1)).map Value.string := by
  rw [List.drop_eq_getElem_cons h]
  have e : smarks k (j + 1) = smarks k j ++ [mtext (k + j)] := by simp [smarks, List.range_succ]
  rw [e]
  simp only [List.map_append, List.map_cons, List.append_assoc, List.cons_append, List.nil_append]
  rw [List.set_append_right _ _ (by simp [smarks])]
  simp [smarks]
theorem grown_trans {w w1 w2 : World} {r : Option Nat} (h : w.grownBy w1 r) (h' : w1.grownBy w2 r) : w.grownBy w2 r :=
  ⟨h'.os.trans h.os, h'.tape.trans h.tape, h'.output.trans h.output, Nat.le_trans h.size h'.size, fun b hb hne => (h'.block b (Nat.lt_of_lt_of_le hb h.size) hne).trans (h.block b hb hne)⟩
theorem laws_markStringS (v : Value) (xs : List ByteArray) (k0 : Nat) (w : World) (B : Nat) (hv : Strs w B v xs) (h1 : k0 ≤ 1048576) (h2 : xs.length ≤ 1048576) :
    Calls Try.prog 9 #[v, .int .i64 (k0 : Int)] w fun e w' => e = .returned (.int .i64 ((k0 : Int) + xs.length)) ∧ Strs w' B v (smarks k0 xs.length) ∧ w.grownBy w' v.ownBlock := by
  obtain ⟨A, c, rfl, ha⟩ := hv.shape
  have HA := Lib.hid ha
  have HV := Lib.hid hv
  clear ha hv
  go_enter Try.func9, Try.ntmps9
  go_wp2
  go_loopw [1, 5] (fun q i wr => ∃ k : Nat, k ≤ xs.length ∧ i = .int .i64 k ∧ q = .int .i64 ((k0 + k : Nat) : Int) ∧ Hid (Strs wr B (.slice A xs.length c) (smarks k0 k ++ xs.drop k)) ∧ Hid (w.grownBy wr (Value.slice A xs.length c).ownBlock)) (fun _ i _ => xs.length - (intOf i).toNat)
  case atStart => exact ⟨0, Nat.zero_le _, rfl, by simp, by simpa [smarks] using HV, World.grownBy.refl _ _⟩
  case round =>
    obtain ⟨k, hk, rfl, rfl, hi, hg⟩ := hrel
    by_cases hlt : k < xs.length
    · obtain ⟨g, rfl, _, _, _, _⟩ := HA.out k hlt
      have hq : k0 + k ≤ 4194304 := by omega
      have HQ := Lib.hid hq
      clear hq
      go_wp2_with fail
      refine (laws_markText _ _ HQ.out).mono ?_
      rintro e w2 ⟨rfl, hb2⟩
      have hn : (smarks k0 k ++ xs.drop k).length = xs.length := by simp [smarks_length]; omega
      have hi' := hi.out.below hb2
      have hg' := grown_trans hg.out (grown_of_below hb2 _)
      unfold Strs at hi'
      rw [hn] at hi'
      have hc := hi'.cellAt k (by omega)
      have hf := hi'.frozenAt k
      have hst := Lib.hid (hi'.stored k (.string (mtext (k0 + k))))
      have HN := Lib.hid hn
      have HG := Lib.hid hg'
      have e1 : ((smarks k0 k ++ xs.drop k).map Value.string)[k]? = some (.string (xs.getD k ⟨#[]⟩)) := by
        rw [List.getElem?_map, List.getElem?_append_right (by simp [smarks_length])]
        simp [smarks_length, List.getD_eq_getElem?_getD, hlt]
      rw [e1] at hc
      clear hn hi' e1 hg' hb2
      go_wp2
      go_roundw
      case rel =>
        refine ⟨k + 1, by omega, by go_num, by go_num, ?_, ?_⟩
        · have h3 := hst.out.1
          rw [smarks_set k0 xs k hlt] at h3
          show Strs _ _ _ _
          unfold Strs
          rw [show (smarks k0 (k + 1) ++ xs.drop (k + 1)).length = xs.length by simp [smarks_length]; omega]
          exact h3
        · exact grown_trans HG.out hst.out.2
      case measure => simp [intOf]; omega
    · obtain rfl : k = xs.length := by omega
      go_wp2
      go_ret
      have h6 := hi.out
      rw [List.drop_of_length_le (Nat.le_refl _), List.append_nil] at h6
      exact ⟨ret_int (by simp), h6, hg.out⟩
theorem laws_heldStringS (v : Value) (n : Nat) (k0 : Nat) (w : World) (B : Nat) (hv : Strs w B v (smarks k0 n)) (h1 : k0 ≤ 1048576) (h2 : n ≤ 1048576) :
    Calls Try.prog 10 #[v, .int .i64 (k0 : Int)] w fun e w' => e = .returned (.int .i64 ((k0 : Int) + n)) ∧ Below w.heap.size w w' := by
  obtain ⟨A, c, rfl, ha⟩ := hv.shape
  rw [smarks_length] at ha ⊢
  have HA := Lib.hid ha
  clear ha hv
  go_enter Try.func10, Try.ntmps10
  go_wp2
  go_loopw [1, 5] (fun q i wr => ∃ k : Nat, k ≤ n ∧ i = .int .i64 k ∧ q = .int .i64 ((k0 + k : Nat) : Int) ∧ Hid (Below w.heap.size w wr)) (fun _ i _ => n - (intOf i).toNat)
  case atStart => exact ⟨0, Nat.zero_le _, rfl, by simp, Below.refl _ _⟩
  case round =>
    obtain ⟨k, hk, rfl, rfl, hb⟩ := hrel
    by_cases hlt : k < n
    · obtain ⟨g, rfl, _, hg, hc, _⟩ := HA.out k hlt
      rw [smarks_getD k0 n k hlt] at hc
      have hq : k0 + k ≤ 4194304 := by omega
      have HQ := Lib.hid hq
      have HC : Hid (∀ W', Below wr.heap.size wr W' → W'.cell? ⟨g, k, none⟩ = some (.string (mtext (k0 + k)))) := fun W' h =>
        (h.cell (p := ⟨g, k, none⟩) (Nat.lt_of_lt_of_le hg hb.out.size)).trans ((hb.out.cell (p := ⟨g, k, none⟩) hg).trans hc)
      clear hq hc
      go_wp2_with fail
      refine wp_region_mild0 [true, true, true, true, true, true, true] (by kernel_rfl) (by kernel_rfl) ?_
      refine wpMildL_take rfl ?_
      apply Exists.intro
      refine ⟨fun w' hw' => ?_, ?_⟩
      · go_simp
        with_reducible rfl
      simp only [Act.put, List.setIfInBounds_toArray, List.set_cons_zero, List.set_cons_succ]
      refine wpMildL_take rfl ?_
      apply Exists.intro
      refine ⟨fun w' hw' => ?_, ?_⟩
      · go_simp
        with_reducible rfl
      simp only [Act.put, List.setIfInBounds_toArray, List.set_cons_zero, List.set_cons_succ]
      refine wpMildL_take rfl ?_
      apply Exists.intro
      refine ⟨fun w' hw' => ?_, ?_⟩
      · go_simp
        with_reducible rfl
      simp only [Act.put, List.setIfInBounds_toArray, List.set_cons_zero, List.set_cons_succ]
      refine wpMildL_take rfl ?_
      apply Exists.intro
      refine ⟨fun w' hw' => ?_, ?_⟩
      · (have h1 := HC.out w' hw'; go_simp; with_reducible rfl)
      simp only [Act.put, List.setIfInBounds_toArray, List.set_cons_zero, List.set_cons_succ]
      refine wpMildL_take rfl ?_
      apply Exists.intro
      refine ⟨fun w' hw' => ?_, ?_⟩
      · go_simp
        with_reducible rfl
      simp only [Act.put, List.setIfInBounds_toArray, List.set_cons_zero, List.set_cons_succ]
      refine wpMildL_take rfl ?_
      apply Exists.intro
      refine ⟨fun w' hw' => ?_, ?_⟩
      · go_simp
        exact laws_markText _ _ HQ.out
      simp only [Act.put, List.setIfInBounds_toArray, List.set_cons_zero, List.set_cons_succ]
      refine wpMildL_take rfl ?_
      apply Exists.intro
      refine ⟨fun w' hw' => ?_, ?_⟩
      · go_simp
        with_reducible rfl
      simp only [Act.put, List.setIfInBounds_toArray, List.set_cons_zero, List.set_cons_succ]
      refine wpMildL_nil ?_
      intro w2 hb2
      have HB := Lib.hid (bstep hb.out hb2)
      clear hb2
      go_wp2
      go_roundw
      case rel => exact ⟨k + 1, by omega, by go_num, by go_num, HB.out⟩
      case measure => simp [intOf]; omega
    · obtain rfl : k = n := by omega
      go_wp2
      go_ret
      exact ⟨ret_int (by simp), hb.out⟩
theorem laws_mark1StringS (v : Value) (xs : List ByteArray) (w : World) (B : Nat) (hv : Strs w B v xs) (h2 : xs.length ≤ 1048576) :
    Calls Try.prog 9 #[v, .int .i64 1] w fun e w' => e = .returned (.int .i64 (1 + xs.length)) ∧ Strs w' B v (smarks 1 xs.length) ∧ w.grownBy w' v.ownBlock :=
  laws_markStringS v xs 1 w B hv (by omega) h2
theorem laws_held1StringS (v : Value) (n : Nat) (w : World) (B : Nat) (hv : Strs w B v (smarks 1 n)) (h2 : n ≤ 1048576) :
    Calls Try.prog 10 #[v, .int .i64 1] w fun e w' => e = .returned (.int .i64 (1 + n)) ∧ Below w.heap.size w w' :=
  laws_heldStringS v n 1 w B hv (by omega) h2
end Go.Proofs.Ytbaekalebodhaaa
