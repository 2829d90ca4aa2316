/- The functions that join texts. Conditions: as each theorem says. -/
import Derived.Test.YtbaekalebodhaaaRows
import Derived.Test.YtbaekalebodhaaaJoin
namespace Go.Proofs.Ytbaekalebodhaaa
set_option linter.unusedSimpArgs false
set_option linter.unusedVariables false
open Go.ChangeShapes Go.WideShapes Go.ChangeAt Go.RowKit

def stands (s : ByteArray) (b : UInt8) : Bool := s.data.toList.any (· == b)
def jn (xs : List ByteArray) (sep : ByteArray) : ByteArray := ⟨(Lib.join (xs.map (·.data.toList)) sep.data.toList).toArray⟩
theorem ba_ext {a b : ByteArray} (h : a.data.toList = b.data.toList) : a = b := by
  obtain ⟨⟨x⟩⟩ := a
  obtain ⟨⟨y⟩⟩ := b
  simp at h
  rw [h]
theorem jn_toList (xs : List ByteArray) (sep : ByteArray) : (jn xs sep).data.toList = Lib.join (xs.map (·.data.toList)) sep.data.toList := by simp [jn]
theorem jn_first (xs : List ByteArray) (sep : ByteArray) (h : 0 < xs.length) : jn (xs.take 1) sep = jn (xs.take 0) sep ++ xs.getD 0 ⟨#[]⟩ := by
  cases xs with
  | nil => simp at h
  | cons x r =>
    apply ba_ext
    rw [ByteArray.data_append, Array.toList_append, jn_toList, jn_toList]
    simp [Lib.join_one, Lib.join_nil]
theorem jn_next (xs : List ByteArray) (sep : ByteArray) (k : Nat) (h : k < xs.length) (hk : 0 < k) : jn (xs.take (k + 1)) sep = (jn (xs.take k) sep ++ sep) ++ xs.getD k ⟨#[]⟩ := by
  cases xs with
  | nil => simp at h
  | cons x r =>
    obtain ⟨j, rfl⟩ : ∃ j, k = j + 1 := ⟨k - 1, by omega⟩
    have hj : j < r.length := by simpa using h
    apply ba_ext
    rw [ByteArray.data_append, Array.toList_append, ByteArray.data_append, Array.toList_append, jn_toList, jn_toList]
    simp only [List.take_succ_cons, List.map_cons, Lib.join_cons, List.map_take]
    have hy : (r.map (·.data.toList))[j]? = some r[j].data.toList := by simp [hj]
    rw [Lib.joinTail_take_succ _ _ _ _ hy]
    simp [List.getD_eq_getElem?_getD, hj, List.append_assoc]
theorem jn_size (xs : List ByteArray) (sep : ByteArray) (hs : sep.size = 1) (k : Nat) (h : k ≤ xs.length) : (jn (xs.take k) sep).size = (k - 1) + sumS (xs.take k) := by
  induction k with
  | zero => simp [jn, Lib.join_nil, sumS]; rfl
  | succ k ih =>
    have ih := ih (by omega)
    rw [sumS_take xs k (by omega)]
    by_cases h0 : k = 0
    · subst h0
      rw [jn_first xs sep (by omega), ByteArray.size_append, ih]
      simp
    · rw [jn_next xs sep k (by omega) (by omega), ByteArray.size_append, ByteArray.size_append, ih, hs]
      omega
def okJ (xs : List ByteArray) (sep : ByteArray) : Bool := decide (sep.size = 1) && (decide (0 < xs.length) && (xs.all (fun x => !stands x (sep.data.toList.getD 0 0)) && decide (xs.length - 1 + sumS xs ≤ 4000)))
def joinV (xs : List ByteArray) (sep : ByteArray) : ByteArray := if okJ xs sep then jn xs sep else ⟨#[]⟩
/-- What a function that joins has done. -/
def RetJ (xs : List ByteArray) (sep : ByteArray) (w : World) (e : Ending) (w' : World) : Prop := e = .returned (.tuple #[.string (joinV xs sep), .bool (okJ xs sep)]) ∧ Below w.heap.size w w'
theorem retJ_no {xs : List ByteArray} {sep : ByteArray} {w w' : World} {e : Ending} (he : e = .returned (.tuple #[.string ⟨#[]⟩, .bool false])) (h : okJ xs sep = false) (hb : Below w.heap.size w w') : RetJ xs sep w e w' := by
  refine ⟨?_, hb⟩
  unfold joinV
  rw [h, he]
  rfl
theorem retJ_yes {xs : List ByteArray} {sep : ByteArray} {w w' : World} {e : Ending} (he : e = .returned (.tuple #[.string (jn xs sep), .bool true])) (h : okJ xs sep = true) (hb : Below w.heap.size w w') : RetJ xs sep w e w' := by
  refine ⟨?_, hb⟩
  unfold joinV
  rw [h, he]
  rfl
theorem okJ_stand {xs : List ByteArray} {sep : ByteArray} {k : Nat} (h : k < xs.length) (hs : stands (xs.getD k ⟨#[]⟩) (sep.data.toList.getD 0 0) = true) : okJ xs sep = false := by
  unfold okJ
  have : xs.all (fun x => !stands x (sep.data.toList.getD 0 0)) = false := by
    rw [← Bool.not_eq_true, List.all_eq_true]
    intro hall
    have := hall (xs.getD k ⟨#[]⟩) (by simp [List.getD_eq_getElem?_getD, h])
    rw [hs] at this
    cases this
  rw [this]
  simp
theorem okJ_size {xs : List ByteArray} {sep : ByteArray} (h : 4000 < xs.length - 1 + sumS xs) : okJ xs sep = false := by
  unfold okJ
  have : decide (xs.length - 1 + sumS xs ≤ 4000) = false := by simp; omega
  rw [this]
  simp
/-- No part ahead of place k holds the byte. -/
def clean (xs : List ByteArray) (b : UInt8) (k : Nat) : Prop := ∀ x ∈ xs.take k, stands x b = false
theorem clean_succ {xs : List ByteArray} {b : UInt8} {k : Nat} (h : clean xs b k) (hk : k < xs.length) (hs : stands (xs.getD k ⟨#[]⟩) b = false) : clean xs b (k + 1) := by
  intro x hx
  rw [List.take_succ_eq_append_getElem hk, List.mem_append] at hx
  rcases hx with hx | hx
  · exact h x hx
  · simp at hx
    subst hx
    simpa [List.getD_eq_getElem?_getD, hk] using hs
theorem okJ_all {xs : List ByteArray} {sep : ByteArray} (h1 : sep.size = 1) (h0 : 0 < xs.length) (hc : clean xs (sep.data.toList.getD 0 0) xs.length) (hz : xs.length - 1 + sumS xs ≤ 4000) : okJ xs sep = true := by
  unfold okJ
  have : xs.all (fun x => !stands x (sep.data.toList.getD 0 0)) = true := by
    rw [List.all_eq_true]
    intro x hx
    rw [hc x (by simpa using hx)]
    rfl
  rw [this]
  simp [h1, h0, hz]
theorem stands_step (s : ByteArray) (b : UInt8) (k : Nat) (h : k < s.size) : (s.data.toList.drop k).any (· == b) = (((s[k].toNat : Int) == (b.toNat : Int)) || (s.data.toList.drop (k + 1)).any (· == b)) := by
  rw [List.drop_eq_getElem_cons (by simpa using h), List.any_cons]
  congr 1
  rw [Bool.eq_iff_iff]
  simp only [beq_iff_eq]
  constructor
  · intro e
    have : s[k] = b := e
    rw [this]
  · intro e
    have : s[k].toNat = b.toNat := by omega
    exact UInt8.toNat_inj.1 this
theorem spec_l1Stands (s : ByteArray) (b : UInt8) (w : World) (hs : s.size ≤ 1048576) : Calls Try.prog 23 #[.string s, .int .u8 (b.toNat : Int)] w fun e w' => e = .returned (.bool (stands s b)) ∧ w = w' := by
  go_enter Try.func23, Try.ntmps23
  go_wp2
  go_loop [5] (fun i => ∃ k : Nat, k ≤ s.size ∧ i = .int .i64 k ∧ Hid (stands s b = (s.data.toList.drop k).any (· == b))) (fun i => s.size - (intOf i).toNat)
  case atStart => exact ⟨0, Nat.zero_le _, rfl, rfl⟩
  case round =>
    obtain ⟨k, hk, rfl, hi⟩ := hrel
    by_cases hlt : k < s.size
    · have HS := Lib.hid (stands_step s b k hlt)
      cases he : ((s[k].toNat : Int) == (b.toNat : Int))
      · go_wp2
        go_round
        case rel => exact ⟨k + 1, by omega, by go_num, by rw [hi.out, HS.out, he]; rfl⟩
        case measure => simp [intOf]; omega
      · go_wp2
        go_ret
        exact ⟨by rw [hi.out, HS.out, he]; rfl, rfl⟩
    · go_wp2
      go_ret
      exact ⟨by rw [hi.out, List.drop_of_length_le (by simp; omega)]; rfl, rfl⟩
theorem spec_l1Stands_b (s : ByteArray) (b : UInt8) (w : World) (hs : s.size ≤ 1048576) : Calls Try.prog 23 #[.string s, .int .u8 (b.toNat : Int)] w fun e w' => e = .returned (.bool (stands s b)) ∧ Below w.heap.size w w' :=
  (spec_l1Stands s b w hs).mono fun e w' ⟨he, hw⟩ => ⟨he, hw ▸ Below.refl _ _⟩
theorem sum_part (xs : List ByteArray) (k : Nat) (h : k < xs.length) : (xs.getD k ⟨#[]⟩).size ≤ sumS xs := by
  have h1 := sumS_take xs k h
  have h2 := sumS_le xs (k + 1)
  omega
set_option maxHeartbeats 2000000 in
theorem spec_JoinStrings (v : Value) (xs : List ByteArray) (sep : ByteArray) (w : World) (B : Nat) (hv : Strs w B v xs) (hl : xs.length + sumS xs ≤ 1048576) (hp : sep.size ≤ 1048576) : Calls Try.prog 12 #[v, .string sep] w (RetJ xs sep w) := by
  obtain ⟨A, c, rfl, ha⟩ := hv.shape
  have HA := Lib.hid ha
  clear ha hv
  by_cases h1 : sep.size = 1
  · have h0 : 0 < sep.size := by omega
    have h0' : (0 : Int) < sep.size := by omega
    have e1 : ((sep.size : Int) != 1) = false := by simp; omega
    have HB := Lib.hid (sep_at h0)
    have H1 := Lib.hid h1
    clear h1
    by_cases hn : xs.length = 0
    · have HO : Hid (okJ xs sep = false) := by show _ = _; unfold okJ; simp [hn]
      rw [hn]
      go_enter Try.func12, Try.ntmps12
      go_wp2
      go_ret2
      exact retJ_no rfl HO.out (Below.refl _ _)
    · have n0 : ((xs.length : Int) == 0) = false := by rw [beq_eq_false_iff_ne]; omega
      have hpos : 0 < xs.length := by omega
      clear hn
      go_enter Try.func12, Try.ntmps12
      go_wp2
      go_loopw [6, 7] (fun o i wr => ∃ k : Nat, k ≤ xs.length ∧ i = .int .i64 k ∧ o = .string (jn (xs.take k) sep) ∧ Hid (clean xs (sep.data.toList.getD 0 0) k) ∧ (jn (xs.take k) sep).size ≤ 4000 ∧ Hid (Below w.heap.size w wr)) (fun _ i _ => xs.length - (intOf i).toNat)
      case atStart => exact ⟨0, Nat.zero_le _, rfl, rfl, fun x hx => by simp at hx, by rw [jn_size xs sep H1.out 0 (Nat.zero_le _)]; simp [sumS], Below.refl _ _⟩
      case round =>
        obtain ⟨k, hk, rfl, rfl, hcl, hsz, hb⟩ := hrel
        by_cases hlt : k < xs.length
        · obtain ⟨g, rfl, _, hg, hc, _⟩ := HA.out k hlt
          have HC : Hid (∀ w', Below wr.heap.size wr w' → w'.cell? ⟨g, k, none⟩ = some (.string (xs.getD k ⟨#[]⟩))) := fun w' h => ((bstep hb.out h).cell (p := ⟨g, k, none⟩) hg).trans hc
          have hlt' : (k : Int) < xs.length := by omega
          have hpart := sum_part xs k hlt
          have HST : Hid (stands (xs.getD k ⟨#[]⟩) (sep.data.toList.getD 0 0) = true → okJ xs sep = false) := fun h => okJ_stand hlt h
          have HCL : Hid (stands (xs.getD k ⟨#[]⟩) (sep.data.toList.getD 0 0) = false → clean xs (sep.data.toList.getD 0 0) (k + 1)) := fun h => clean_succ hcl.out hlt h
          have HJ0 : Hid (k = 0 → jn (xs.take (k + 1)) sep = jn (xs.take k) sep ++ xs.getD k ⟨#[]⟩) := fun h => by subst h; exact jn_first xs sep hpos
          have HJ1 : Hid (0 < k → jn (xs.take (k + 1)) sep = (jn (xs.take k) sep ++ sep) ++ xs.getD k ⟨#[]⟩) := fun h => jn_next xs sep k hlt h
          have HZ : Hid (4000 < (jn (xs.take (k + 1)) sep).size → okJ xs sep = false) := fun h => okJ_size (by
            have q1 := jn_size xs sep H1.out (k + 1) hlt
            have q2 := sumS_le xs (k + 1)
            omega)
          clear hc
          generalize xs.getD k ⟨#[]⟩ = y at *
          generalize sep.data.toList.getD 0 0 = b at *
          go_wp2
          refine wp_region_mild0 [true, true, true, true, true, true, true] (by kernel_rfl) (by kernel_rfl) ?_
          refine wpMildL_take rfl ?_
          apply Exists.intro
          refine ⟨fun w' hw' => ?_, ?_⟩
          · go_simp
            with_reducible rfl
          simp only [Act.put, List.setIfInBounds_toArray, List.set_cons_zero, List.set_cons_succ]
          refine wpMildL_take rfl ?_
          apply Exists.intro
          refine ⟨fun w' hw' => ?_, ?_⟩
          · go_simp
            with_reducible rfl
          simp only [Act.put, List.setIfInBounds_toArray, List.set_cons_zero, List.set_cons_succ]
          refine wpMildL_take rfl ?_
          apply Exists.intro
          refine ⟨fun w' hw' => ?_, ?_⟩
          · go_simp
            with_reducible rfl
          simp only [Act.put, List.setIfInBounds_toArray, List.set_cons_zero, List.set_cons_succ]
          refine wpMildL_take rfl ?_
          apply Exists.intro
          refine ⟨fun w' hw' => ?_, ?_⟩
          · (have hc := HC.out w' hw'; go_simp; with_reducible rfl)
          simp only [Act.put, List.setIfInBounds_toArray, List.set_cons_zero, List.set_cons_succ]
          refine wpMildL_take rfl ?_
          apply Exists.intro
          refine ⟨fun w' hw' => ?_, ?_⟩
          · go_simp
            with_reducible rfl
          simp only [Act.put, List.setIfInBounds_toArray, List.set_cons_zero, List.set_cons_succ]
          refine wpMildL_take rfl ?_
          apply Exists.intro
          refine ⟨fun w' hw' => ?_, ?_⟩
          · go_simp
            with_reducible rfl
          simp only [Act.put, List.setIfInBounds_toArray, List.set_cons_zero, List.set_cons_succ]
          refine wpMildL_take rfl ?_
          apply Exists.intro
          refine ⟨fun w' hw' => ?_, ?_⟩
          · (go_simp; exact spec_l1Stands_b y sep[0] _ (by omega))
          simp only [Act.put, List.setIfInBounds_toArray, List.set_cons_zero, List.set_cons_succ]
          refine wpMildL_nil ?_
          intro w1 hb1
          have HB1 := Lib.hid (bstep hb.out hb1)
          have hc1 := HC.out w1 hb1
          clear hb hb1 HC
          rw [HB.out]
          cases hst : stands y b
          · by_cases h00 : k = 0
            · have HJ := Lib.hid (HJ0.out h00)
              generalize hJ : jn (xs.take k) sep = J at *
              generalize hJ2 : jn (xs.take (k + 1)) sep = J2 at *
              have hsz2 : J2.size = J.size + y.size := by rw [HJ.out, ByteArray.size_append]
              have HSZ := Lib.hid hsz2
              have HJE := Lib.hid hJ2
              clear hsz2 hJ hJ2 HJ0 HJ1
              by_cases hbig : J.size + y.size ≤ 4000
              · subst h00
                go_wp2
                go_roundw
                case rel => exact ⟨0 + 1, by omega, by go_num, by rw [HJE.out, HJ.out], HCL.out hst, by rw [HJE.out, HSZ.out]; omega, HB1⟩
                case measure => simp [intOf]; omega
              · subst h00
                go_wp2
                go_ret2
                exact retJ_no rfl (HZ.out (by rw [HSZ.out]; omega)) HB1.out
            · have hk0 : 0 < k := by omega
              have HJ := Lib.hid (HJ1.out hk0)
              generalize hJ : jn (xs.take k) sep = J at *
              generalize hJ2 : jn (xs.take (k + 1)) sep = J2 at *
              have hsz2 : J2.size = J.size + sep.size + y.size := by rw [HJ.out, ByteArray.size_append, ByteArray.size_append]
              have HSZ := Lib.hid hsz2
              have HJE := Lib.hid hJ2
              clear hsz2 hJ hJ2 HJ0 HJ1
              by_cases hbig : J.size + sep.size + y.size ≤ 4000
              · go_wp2
                go_roundw
                case rel => exact ⟨k + 1, by omega, by go_num, by rw [HJE.out, HJ.out], HCL.out hst, by rw [HJE.out, HSZ.out]; omega, HB1⟩
                case measure => simp [intOf]; omega
              · go_wp2
                go_ret2
                exact retJ_no rfl (HZ.out (by rw [HSZ.out]; omega)) HB1.out
          · go_wp2
            go_ret2
            exact retJ_no rfl (HST.out hst) HB1.out
        · obtain rfl : k = xs.length := by omega
          have q1 := jn_size xs sep H1.out xs.length (Nat.le_refl _)
          rw [List.take_length] at q1 hsz ⊢
          have HO := Lib.hid (okJ_all H1.out hpos hcl.out (by omega))
          clear q1
          go_wp2
          go_ret2
          exact retJ_yes rfl HO.out hb.out
  · have HO : Hid (okJ xs sep = false) := by show _ = _; unfold okJ; simp [h1]
    have e1 : ((sep.size : Int) != 1) = true := by simp; omega
    go_enter Try.func12, Try.ntmps12
    go_wp2
    go_ret2
    exact retJ_no rfl HO.out (Below.refl _ _)
theorem ib_stands (l : List UInt8) (b : UInt8) : decide (0 ≤ Lib.indexByte l b) = l.any (· == b) := by
  induction l with
  | nil => rfl
  | cons x l ih =>
    unfold Lib.indexByte
    rw [List.any_cons]
    have hg := Lib.indexByte_ge l b
    cases hx : (x == b)
    · simp only [Bool.false_eq_true, if_false, Bool.false_or]
      rw [← ih]
      by_cases h1 : Lib.indexByte l b = -1
      · simp [h1]
      · have : (Lib.indexByte l b == -1) = false := by simpa using h1
        rw [this]
        simp only [Bool.false_eq_true, if_false]
        rw [Bool.eq_iff_iff]
        simp
        omega
    · simp
/-- Where a byte stands, or -1. -/
def ib (s : ByteArray) (b : UInt8) : Int := Lib.indexByte s.data.toList b
theorem ib_yes {s : ByteArray} {b : UInt8} (h : stands s b = true) : 0 ≤ ib s b := by
  show 0 ≤ Lib.indexByte s.data.toList b
  have := ib_stands s.data.toList b
  unfold stands at h
  rw [h] at this
  simpa using this
theorem ib_no {s : ByteArray} {b : UInt8} (h : stands s b = false) : ib s b < 0 := by
  show Lib.indexByte s.data.toList b < 0
  have := ib_stands s.data.toList b
  unfold stands at h
  rw [h] at this
  simpa using this
theorem strings_IB (s : ByteArray) (b : UInt8) (w : World) : Calls Try.prog 24 #[.string s, .int .u8 (b.toNat : Int)] w fun e w' => e = .returned (.int .i64 (ib s b)) ∧ w = w' := by
  have h := Try.strings_IndexByte s (b.toNat : Int) w
  have e : ((b.toNat : Int).toNat.toUInt8) = b := by simp
  rw [e] at h
  exact h.mono fun e w' ⟨he, hw⟩ => ⟨he, hw.symm⟩
set_option maxHeartbeats 2000000 in
theorem impl_JoinStrings (v : Value) (xs : List ByteArray) (sep : ByteArray) (w : World) (B : Nat) (hv : Strs w B v xs) (hl : xs.length + sumS xs ≤ 1048576) (hp : sep.size ≤ 1048576) : Calls Try.prog 14 #[v, .string sep] w (RetJ xs sep w) := by
  by_cases hn : xs.length = 0
  · have HO : Hid (okJ xs sep = false) := by show _ = _; unfold okJ; simp [hn]
    obtain ⟨A, c, rfl, ha⟩ := hv.shape
    rw [hn]
    clear ha hv
    go_enter Try.func14, Try.ntmps14
    go_wp2
    go_ret2
    exact retJ_no rfl HO.out (Below.refl _ _)
  obtain ⟨g, c, rfl, hcap, hg, ha⟩ := hv.shapeC (by omega)
  have HA := Lib.hid ha
  have n0 : ((xs.length : Int) == 0) = false := by rw [beq_eq_false_iff_ne]; omega
  have hpos : 0 < xs.length := by omega
  clear ha hv hn
  by_cases h1 : sep.size = 1
  · have h0 : 0 < sep.size := by omega
    have h0' : (0 : Int) < sep.size := by omega
    have e1 : ((sep.size : Int) != 1) = false := by simp; omega
    have HB := Lib.hid (sep_at h0)
    have H1 := Lib.hid h1
    clear h1
    go_enter Try.func14, Try.ntmps14
    go_wp2
    go_loop [6, 22] (fun o i => ∃ k : Nat, k ≤ xs.length ∧ i = .int .i64 k ∧ o = .int .i64 ((xs.length : Int) - 1 + (sumS (xs.take k) : Nat)) ∧ Hid (clean xs (sep.data.toList.getD 0 0) k) ∧ Hid (0 < k → xs.length - 1 + sumS (xs.take k) ≤ 4000)) (fun _ i => xs.length - (intOf i).toNat)
    case atStart => exact ⟨0, Nat.zero_le _, rfl, by simp [sumS], fun x hx => by simp at hx, fun h => absurd h (by omega)⟩
    case round =>
      obtain ⟨k, hk, rfl, rfl, hcl, hsz⟩ := hrel
      have hse := sumS_le xs k
      by_cases hlt : k < xs.length
      · have hc := HA.out k hlt
        have hpart := sum_part xs k hlt
        have hT := sumS_take xs k hlt
        have hTE := sumS_le xs (k + 1)
        have HST : Hid (stands (xs.getD k ⟨#[]⟩) (sep.data.toList.getD 0 0) = true → okJ xs sep = false) := fun h => okJ_stand hlt h
        have HCL : Hid (stands (xs.getD k ⟨#[]⟩) (sep.data.toList.getD 0 0) = false → clean xs (sep.data.toList.getD 0 0) (k + 1)) := fun h => clean_succ hcl.out hlt h
        have HZ : Hid (4000 < xs.length - 1 + sumS (xs.take (k + 1)) → okJ xs sep = false) := fun h => okJ_size (by omega)
        generalize xs.getD k ⟨#[]⟩ = y at *
        generalize sumS (xs.take k) = s at *
        generalize hs2 : sumS (xs.take (k + 1)) = s2 at *
        have HT := Lib.hid hT
        have HS2 := Lib.hid hs2
        clear hT hs2 hsz
        by_cases hbig : xs.length - 1 + (s + y.size) ≤ 4000
        · cases hst : stands y (sep.data.toList.getD 0 0)
          · have hno := ib_no hst
            rw [← HB.out] at hno
            have hst' := Lib.hid hst
            clear hst
            go_wp2_with (go_at_call 24; refine (strings_IB y _ _).mono ?_; rintro e w' ⟨rfl, rfl⟩)
            go_round
            case rel => exact ⟨k + 1, by omega, by go_num, by rw [HS2.out, HT.out]; go_num, HCL.out hst'.out, fun _ => by rw [HS2.out, HT.out]; exact hbig⟩
            case measure => simp [intOf]; omega
          · have hyes := ib_yes hst
            rw [← HB.out] at hyes
            have hst' := Lib.hid hst
            clear hst
            go_wp2_with (go_at_call 24; refine (strings_IB y _ _).mono ?_; rintro e w' ⟨rfl, rfl⟩)
            go_ret2
            exact retJ_no rfl (HST.out hst'.out) (Below.refl _ _)
        · go_wp2
          go_ret2
          exact retJ_no rfl (HZ.out (by rw [HT.out]; omega)) (Below.refl _ _)
      · obtain rfl : k = xs.length := by omega
        have q2 := hsz.out hpos
        have HO := Lib.hid (okJ_all H1.out hpos hcl.out (by rw [List.take_length] at q2; exact q2))
        have q1 := jn_size xs sep H1.out xs.length (Nat.le_refl _)
        rw [List.take_length] at q1 q2
        have HLEN : Hid ((Lib.join (xs.map (·.data.toList)) sep.data.toList).length ≤ 140737488355328) := by
          have : (jn xs sep).size = (Lib.join (xs.map (·.data.toList)) sep.data.toList).length := by simp [jn, ByteArray.size]
          show _ ≤ _
          omega
        have HCELL : Hid (∀ (j : Nat) x, xs[j]? = some x → w.cell? ⟨g, 0 + j, none⟩ = some (.string x)) := fun j x hx => by
          obtain ⟨hj, rfl⟩ := List.getElem?_eq_some_iff.1 hx
          rw [Nat.zero_add, HA.out j hj]
          simp [List.getD_eq_getElem?_getD, hj]
        clear q1 q2 hsz
        go_wp2_with (go_at_call 25; refine (Try.strings_Join g 0 c xs sep _ HCELL.out hg (by omega) hcap HLEN.out).mono ?_; rintro e w1 ⟨rfl, hb1⟩)
        go_ret2
        exact retJ_yes rfl HO.out hb1
  · have HO : Hid (okJ xs sep = false) := by show _ = _; unfold okJ; simp [h1]
    have e1 : ((sep.size : Int) != 1) = true := by simp; omega
    go_enter Try.func14, Try.ntmps14
    go_wp2
    go_ret2
    exact retJ_no rfl HO.out (Below.refl _ _)
end Go.Proofs.Ytbaekalebodhaaa
