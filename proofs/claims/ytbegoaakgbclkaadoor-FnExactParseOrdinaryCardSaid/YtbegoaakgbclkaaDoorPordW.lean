/- Texts of ordinaries, parsed: the contracts. Conditions: as each theorem says. -/
import Derived.Test.YtbegoaakgbclkaaDoorRows
import Derived.Test.YtbegoaakgbclkaaDoorText
import Derived.Test.YtbegoaakgbclkaaDoorPordP
import Derived.Test.YtbegoaakgbclkaaDoorMild
import Derived.Test.YtbegoaakgbclkaaDoorDoor1
import Derived.Lib.SplitLaws
namespace Go.Proofs.YtbegoaakgbclkaaDoor
set_option linter.unusedSimpArgs false
set_option linter.unusedVariables false
open Go.ChangeShapes Go.WideShapes Go.ChangeAt Go.RowKit

theorem results_tmp4 {fn : Func} {t u v x : Tmp} (h : fn.results = #[.tmp t, .tmp u, .tmp v, .tmp x]) (tmps : Array Value) (P : Program) (w : World) :
    (results fn tmps).run P w = .ok (.tuple #[tmps.getD t undef, tmps.getD u undef, tmps.getD v undef, tmps.getD x undef]) w := by
  simp [results, h]
def owArr : Array Value := (owords.map Value.string).toArray
def lwArr : Array Value := (lwords.map Value.string).toArray
theorem owArr_at (k : Nat) (h : k < owords.length) : owArr[k]? = some (.string (owords.getD k ⟨#[]⟩)) := by simp [owArr, List.getD_eq_getElem?_getD, h]
theorem lwArr_at (k : Nat) (h : k < lwords.length) : lwArr[k]? = some (.string (lwords.getD k ⟨#[]⟩)) := by simp [lwArr, List.getD_eq_getElem?_getD, h]
theorem impl_ordinaryWords (w : World) : Calls Tryd.prog 11 #[] w fun e w' => e = .returned (.slice (some ⟨w.heap.size, 0, none⟩) 7 7) ∧ w.alloc (.cells owArr 9) = w' := by
  go_enter Tryd.func11, Tryd.ntmps11
  go_wp2
  go_ret
  exact ⟨rfl, rfl⟩
theorem impl_lineWords (w : World) : Calls Tryd.prog 12 #[] w fun e w' => e = .returned (.slice (some ⟨w.heap.size, 0, none⟩) 4 4) ∧ w.alloc (.cells lwArr 9) = w' := by
  go_enter Tryd.func12, Tryd.ntmps12
  go_wp2
  go_ret
  exact ⟨rfl, rfl⟩
/-- What the functions have done. -/
def RetLast (s : ByteArray) (w : World) (e : Ending) (w' : World) : Prop := ∃ a b, e = .returned (.tuple #[.string a, .string b]) ∧ LastOk s a b ∧ Below w.heap.size w w'
def RetUn (s : ByteArray) (w : World) (e : Ending) (w' : World) : Prop := ∃ o l b, e = .returned (.tuple #[.int .i64 o, .int .i64 l, .bool b]) ∧ UnOk s o l b ∧ Below w.heap.size w w'
def RetPo (s : ByteArray) (w : World) (e : Ending) (w' : World) : Prop := ∃ o l x b, e = .returned (.tuple #[.int .i64 o, .int .i64 l, .int .i64 x, .bool b]) ∧ PoOk s o l x b ∧ Below w.heap.size w w'
theorem spec_l4Last (s : ByteArray) (hs : s.size ≤ 1048576) (w : World) : Calls Tryd.prog 6 #[.string s] w (RetLast s w) := by
  go_enter Tryd.func6, Tryd.ntmps6
  go_wp2
  go_loop [4] (fun i => ∃ k : Nat, k ≤ s.size ∧ i = .int .i64 ((k : Int) - 1) ∧ Hid (∀ j, k ≤ j → s.data.toList[j]? ≠ some 32)) (fun i => (intOf i + 1).toNat)
  case atStart => exact ⟨s.size, Nat.le_refl _, by go_num, fun j hj => by rw [List.getElem?_eq_none (by simpa using hj)]; simp⟩
  case round =>
    obtain ⟨k, hk, rfl, hno⟩ := hrel
    cases k with
    | zero =>
      go_wp2
      go_ret2
      refine ⟨⟨#[]⟩, s, rfl, ⟨fun hm => ?_, .inl ⟨rfl, rfl⟩⟩, Below.refl _ _⟩
      obtain ⟨j, hj⟩ := List.mem_iff_getElem?.1 hm
      exact hno.out j (Nat.zero_le _) hj
    | succ k =>
      have hlt : k < s.size := by omega
      have hx : (((k + 1 : Nat) : Int) - 1) = (k : Int) := by omega
      rw [hx]
      have hget : s.data.toList[k]? = some s[k] := by
        rw [List.getElem?_eq_getElem (by simpa using hlt)]
        rfl
      cases he : ((s[k].toNat : Int) == 32)
      · have hne : s[k] ≠ 32 := fun e => by rw [e] at he; simp at he
        have HN : Hid (∀ j, k ≤ j → s.data.toList[j]? ≠ some 32) := fun j hj => by
          rcases Nat.eq_or_lt_of_le hj with rfl | h
          · rw [hget]; simpa using hne
          · exact hno.out j h
        clear hx
        go_wp2
        go_round
        case rel => exact ⟨k, by omega, by go_num, HN⟩
        case measure => first | (simp [intOf]; done) | (simp [intOf]; omega)
      · have heq : s[k] = 32 := by
          have : (s[k].toNat : Int) = 32 := by simpa using he
          exact UInt8.toNat_inj.1 (by simpa using (by omega : s[k].toNat = 32))
        have HL : Hid (LastOk s (s.extract 0 k) (s.extract (k + 1) s.size)) := by
          have e1 : (s.extract 0 k).data.toList = s.data.toList.take k := Lib.extract_from_zero s k
          have e2 : (s.extract (k + 1) s.size).data.toList = s.data.toList.drop (k + 1) := Lib.extract_to_end s (k + 1)
          refine ⟨fun hm => ?_, .inr ?_⟩
          · rw [e2] at hm
            obtain ⟨j, hj⟩ := List.mem_iff_getElem?.1 hm
            rw [List.getElem?_drop] at hj
            exact hno.out (k + 1 + j) (by omega) hj
          · rw [e1, e2]
            have hk' : k < s.data.toList.length := by simpa using hlt
            have e3 : s.data.toList[k] = 32 := by rw [← heq]; rfl
            rw [← e3, ← List.drop_eq_getElem_cons hk', List.take_append_drop]
        clear hx hno hget heq
        go_wp2
        go_quiet (fail)
        go_wp2
        go_ret2
        exact ⟨_, _, rfl, HL.out, (by repeat (first | (with_reducible exact Below.refl _ _) | (with_reducible assumption) | (with_reducible refine balloc ?_ _) | (with_reducible refine bdrew ?_) | (with_reducible refine bdrewN ?_ _) | (with_reducible refine bset ?_ (by first | omega | (simp; done) | (simp; omega)) _) | (with_reducible refine bstep ?_ (by assumption))))⟩
theorem spec_l6Unordinary (s : ByteArray) (w : World) : Calls Tryd.prog 7 #[.string s] w (RetUn s w) := by
  go_enter Tryd.func7, Tryd.ntmps7
  go_wp2
  go_loopw [5] (fun i wr => ∃ k : Nat, 1 ≤ k ∧ k ≤ 8 ∧ i = .int .i64 k ∧ Hid (∀ o' l', inB 1 o' 7 = true → inB 0 l' 4 = true → o' < k → ostart o' l' ≠ s) ∧ Hid (Below w.heap.size w wr)) (fun i _ => 8 - (intOf i).toNat)
  case atStart => exact ⟨1, by omega, by omega, rfl, fun o' l' h _ hlt => by have := inB_true.1 h; omega, Below.refl _ _⟩
  case round =>
    obtain ⟨k, hk1, hk, rfl, hno, hb⟩ := hrel
    obtain ⟨wo, rfl⟩ : ∃ wo : World, wo = wr := ⟨_, rfl⟩
    by_cases hlt : k ≤ 7
    · have dK : decide ((k : Int) ≤ 7) = true := by simp; omega
      go_wp2
      go_loopw [6] (fun i wr => ∃ l : Nat, l ≤ 5 ∧ i = .int .i64 l ∧ Hid (∀ l', inB 0 l' 4 = true → l' < l → ostart k l' ≠ s) ∧ Hid (Below w.heap.size w wr)) (fun i _ => 5 - (intOf i).toNat)
      case atStart => exact ⟨0, by omega, rfl, fun l' h hlt => by have := inB_true.1 h; omega, hb⟩
      case round =>
        obtain ⟨l, hl, rfl, hnl, hbq⟩ := hrel
        by_cases hll : l ≤ 4
        · have h1 : inB 1 (k : Int) 7 = true := by rw [inB_true]; omega
          have h2 : inB 0 (l : Int) 4 = true := by rw [inB_true]; omega
          have H1 := Lib.hid h1
          have H2 := Lib.hid h2
          clear h1 h2
          cases he : ((ostart k l).toList == s.toList)
          · have HN : Hid (∀ l', inB 0 l' 4 = true → l' < ((l + 1 : Nat) : Int) → ostart k l' ≠ s) := fun l' h hlt => by
              rcases Int.lt_or_le l' l with h3 | h3
              · exact hnl.out l' h h3
              · obtain rfl : l' = l := by omega
                exact ba_bne he
            generalize hq : ostart (k : Int) (l : Int) = q at *
            have HQ := Lib.hid hq
            clear hq
            go_wp2_with (go_at_call 15; refine (spec_l6Ordinary _ _ H1.out H2.out _).mono ?_; rw [HQ.out]; rintro e w1 ⟨rfl, hb1⟩; have HB := Lib.hid (bstep hbq.out hb1); clear hb1)
            go_roundw
            case rel => exact ⟨l + 1, by omega, by go_num, HN, HB⟩
            case measure => simp [intOf]; omega
          · have HU : Hid (UnOk s k l true) := .inl ⟨rfl, H1.out, H2.out, ba_beq he⟩
            generalize hq : ostart (k : Int) (l : Int) = q at *
            have HQ := Lib.hid hq
            clear hq
            go_wp2_with (go_at_call 15; refine (spec_l6Ordinary _ _ H1.out H2.out _).mono ?_; rw [HQ.out]; rintro e w1 ⟨rfl, hb1⟩; have HB := Lib.hid (bstep hbq.out hb1); clear hb1)
            go_ret3
            exact ⟨_, _, _, rfl, HU.out, HB.out⟩
        · have HN : Hid (∀ o' l', inB 1 o' 7 = true → inB 0 l' 4 = true → o' < ((k + 1 : Nat) : Int) → ostart o' l' ≠ s) := fun o' l' h h' hlt => by
            rcases Int.lt_or_le o' k with h3 | h3
            · exact hno.out o' l' h h' h3
            · obtain rfl : o' = k := by omega
              exact hnl.out l' h' (by have := inB_true.1 h'; omega)
          clear hno hnl
          go_wp2
          go_roundw
          case rel => exact ⟨k + 1, by omega, by omega, by go_num, HN, hbq⟩
          case measure => simp [intOf]; omega
    · have HN : Hid (UnOk s 0 0 false) := .inr ⟨rfl, rfl, rfl, fun o' l' h h' => hno.out o' l' h h' (by have := inB_true.1 h; omega)⟩
      clear hno
      go_wp2
      go_ret3
      exact ⟨_, _, _, rfl, HN.out, hb.out⟩
theorem spec_ParseOrdinary (s : ByteArray) (hs : s.size ≤ 1048576) (w : World) : Calls Tryd.prog 4 #[.string s] w (RetPo s w) := by
  go_enter Tryd.func4, Tryd.ntmps4
  go_wp2_with fail
  refine (spec_l4Last s hs _).mono ?_
  rintro e w1 ⟨a, b, rfl, hL, hb1⟩
  go_wp2_with fail
  refine (spec_l6Unordinary a _).mono ?_
  rintro e w2 ⟨o, l, k, rfl, hU, hb2⟩
  have hp := po_spec hL hU
  have HB := Lib.hid (bstep hb1 hb2)
  clear hL hU hb1 hb2
  cases k
  · simp only [Bool.false_and, Bool.false_eq_true, if_false] at hp
    have HP := Lib.hid hp
    clear hp
    go_wp2
    (try simp only [Exit.inBlock, Exit.then]); refine bodyPost_ret (results_tmp4 rfl _ _ _) rfl ?_
    exact ⟨_, _, _, _, rfl, HP.out, HB.out⟩
  · cases h0 : (pt b == 0)
    · have h1 : (pt b != 0) = true := by simpa [bne] using h0
      rw [h1] at hp
      simp only [Bool.true_and, if_true] at hp
      have HP := Lib.hid hp
      have HT := fun w => Lib.hid (spec_l2Parse b w)
      clear hp h1
      generalize pt b = x at *
      go_wp2_with (go_at_call 8; refine (HT _).out.mono ?_; rintro e w3 ⟨rfl, hb3⟩; replace HB := Lib.hid (bstep HB.out hb3); clear hb3)
      (try simp only [Exit.inBlock, Exit.then]); refine bodyPost_ret (results_tmp4 rfl _ _ _) rfl ?_
      exact ⟨_, _, _, _, rfl, HP.out, HB.out⟩
    · have h1 : (pt b != 0) = false := by simpa [bne] using h0
      rw [h1] at hp
      simp only [Bool.and_false, Bool.false_eq_true, if_false] at hp
      have HP := Lib.hid hp
      have HT := fun w => Lib.hid (spec_l2Parse b w)
      clear hp h1
      generalize pt b = x at *
      go_wp2_with (go_at_call 8; refine (HT _).out.mono ?_; rintro e w3 ⟨rfl, hb3⟩; replace HB := Lib.hid (bstep HB.out hb3); clear hb3)
      (try simp only [Exit.inBlock, Exit.then]); refine bodyPost_ret (results_tmp4 rfl _ _ _) rfl ?_
      exact ⟨_, _, _, _, rfl, HP.out, HB.out⟩
set_option maxHeartbeats 2000000 in
theorem impl_ParseOrdinary (s : ByteArray) (hs : s.size ≤ 1048576) (w : World) (hm : Mx w) : Calls Tryd.prog 5 #[.string s] w (RetPo s w) := by
  obtain ⟨m, hm⟩ := hm
  have hsp : Calls Tryd.prog 9 #[.string s, .string ⟨#[32]⟩] w fun e w' => e = .returned (.slice (some ⟨w.heap.size, 0, none⟩) (Lib.countB s ⟨#[32]⟩ + 1) (Lib.countB s ⟨#[32]⟩ + 1)) ∧ w' = w.alloc (.cells ((cutB s).map Value.string).toArray 9) := Tryd.strings_Split s ⟨#[32]⟩ m w (by omega) hm (by decide)
  rw [← cutB_len s] at hsp
  have hlen : (cutB s).length ≤ 1048577 := by
    have := Lib.countB_le ⟨#[32]⟩ (by decide) s.size s (Nat.le_refl _)
    rw [cutB_len]; omega
  have HQ : Hid (∀ o l x, ordOk o l x = true → s = otx o l x → poO (cutB s) = o ∧ poL (cutB s) = l ∧ poX (cutB s) = x ∧ 3 ≤ (cutB s).length ∧ (cutB s).length ≤ 4) := by
    rintro o l x h rfl
    exact po_words h
  generalize cutB s = ws at *
  have HSP := Lib.hid hsp
  clear hsp hm
  go_enter Tryd.func5, Tryd.ntmps5
  go_wp2_with fail
  refine HSP.out.mono ?_
  rintro e w1 ⟨rfl, rfl⟩
  have B0 := Blk.new w 9 (ws.map Value.string).toArray
  have hW : Below w.heap.size w (w.alloc (.cells (ws.map Value.string).toArray 9)) := balloc (Below.refl _ _) _
  generalize w.alloc (.cells (ws.map Value.string).toArray 9) = W at *
  clear HSP
  by_cases h3 : ws.length < 3
  · have HP := Lib.hid (po_none (s := s) fun o l x h e => by have := (HQ.out o l x h e).2.2.2.1; omega)
    clear HQ B0
    go_wp2
    (try simp only [Exit.inBlock, Exit.then]); refine bodyPost_ret (results_tmp4 rfl _ _ _) rfl ?_
    exact ⟨_, _, _, _, rfl, HP.out, hW⟩
  by_cases h4 : 4 < ws.length
  · have HP := Lib.hid (po_none (s := s) fun o l x h e => by have := (HQ.out o l x h e).2.2.2.2; omega)
    clear HQ B0
    go_wp2
    (try simp only [Exit.inBlock, Exit.then]); refine bodyPost_ret (results_tmp4 rfl _ _ _) rfl ?_
    exact ⟨_, _, _, _, rfl, HP.out, hW⟩
  have hcases : (∃ a b c, ws = [a, b, c]) ∨ ∃ a b c d, ws = [a, b, c, d] := by
    match ws, h3, h4 with
    | [], h3, _ => exact absurd (by simp) h3
    | [_], h3, _ => exact absurd (by simp) h3
    | [_, _], h3, _ => exact absurd (by simp) h3
    | [a, b, c], _, _ => exact .inl ⟨a, b, c, rfl⟩
    | [a, b, c, d], _, _ => exact .inr ⟨a, b, c, d, rfl⟩
    | _ :: _ :: _ :: _ :: _ :: _, _, h4 => exact absurd (by simp) h4
  clear h3 h4 hlen
  rcases hcases with ⟨a, b, c, rfl⟩ | ⟨a, b, c, d, rfl⟩
  · have B : Blk W w.heap.size 9 #[.string a, .string b, .string c] := B0
    have C1 : Hid (∀ w', Below W.heap.size W w' → w'.cell? ⟨w.heap.size, 1, none⟩ = some (.string b)) := fun w' h => (B.below h).cell 1
    have HP : Hid (PoOk s (if ordOk (idxL owords b 0 + 1) 0 (pt c) && (otV (idxL owords b 0 + 1) 0 (pt c)).toList == s.toList then idxL owords b 0 + 1 else 0) (if ordOk (idxL owords b 0 + 1) 0 (pt c) && (otV (idxL owords b 0 + 1) 0 (pt c)).toList == s.toList then 0 else 0) (if ordOk (idxL owords b 0 + 1) 0 (pt c) && (otV (idxL owords b 0 + 1) 0 (pt c)).toList == s.toList then pt c else 0) (ordOk (idxL owords b 0 + 1) 0 (pt c) && (otV (idxL owords b 0 + 1) 0 (pt c)).toList == s.toList)) := po_impl fun o' l' x' h e => let q := HQ.out o' l' x' h e; ⟨q.1, q.2.1, q.2.2.1⟩
    obtain ⟨i1, i2⟩ := idxL_range owords b 0
    replace i2 : idxL owords b 0 < 7 := by simpa [owords] using i2
    clear B0 HQ
    go_upto_region 4 with fail
    refine wp_region_mildL (C := fun w' => Below W.heap.size W w') (γ := Nat) (U := fun g i => if i = 0 then .slice (some ⟨g, 0, none⟩) 7 7 else if i = 4 then .int .i64 (idxL owords b 0) else .int .i64 (idxL owords b 0 + 1)) (E := fun L g w' => L 0 = true → Blk w' g 9 owArr)
      [false, true, true, true, false, false, false, true] 0 (by kernel_rfl) rfl (by kernel_rfl) ⟨rfl, rfl, rfl, Nat.le_refl _, fun _ _ => rfl⟩ (fun h => by cases h) (fun L g a b h1 hE h2 => ⟨h1.trans (h2.mono h1.size), fun h => (hE h).below h2⟩)
      (fun L L' g a hl hE => by rw [hl 0 (by simp [lidxs])]; exact hE) ?_
    refine wpMildL_late ?_
    refine wpMildL_take rfl ?_
    apply Exists.intro
    refine ⟨fun w' hw' => ?_, ?_⟩
    · go_simp
      with_reducible rfl
    simp only [Act.put, List.setIfInBounds_toArray, List.set_cons_zero, List.set_cons_succ]
    refine wpMildL_take rfl ?_
    apply Exists.intro
    refine ⟨fun w' hw' => ?_, ?_⟩
    · go_simp
      with_reducible rfl
    simp only [Act.put, List.setIfInBounds_toArray, List.set_cons_zero, List.set_cons_succ]
    refine wpMildL_take rfl ?_
    apply Exists.intro
    refine ⟨fun w' hw' => ?_, ?_⟩
    · (have hc := C1.out w' hw'; go_simp; with_reducible rfl)
    simp only [Act.put, List.setIfInBounds_toArray, List.set_cons_zero, List.set_cons_succ]
    refine wpMildL_late ?_
    refine wpMildL_late ?_
    refine wpMildL_late ?_
    refine wpMildL_take rfl ?_
    apply Exists.intro
    refine ⟨fun w' hw' => ?_, ?_⟩
    · go_simp
      with_reducible rfl
    simp only [Act.put, List.setIfInBounds_toArray, List.set_cons_zero, List.set_cons_succ]
    refine wpMildL_nil ?_
    refine ⟨lateAll_cons (fun L g W' hC hE hL hdep => ?_) (lateAll_skip (lateAll_skip (lateAll_skip (lateAll_cons (fun L g W' hC hE hL hdep => ?_) (lateAll_cons (fun L g W' hC hE hL hdep => ?_) (lateAll_cons (fun L g W' hC hE hL hdep => ?_) (lateAll_skip lateAll_nil))))))), fun L g W' hall hC hE => ?_⟩
    all_goals simp only [lateputL, Act.put, List.setIfInBounds_toArray, List.set_cons_zero, List.set_cons_succ]
    · generalize hr : (execOp _ _).run Tryd.prog W' = r
      refine late_call (w' := W') (f := 11) (args := #[]) (by rw [← hr]; go_simp) ((impl_ordinaryWords _).mono ?_)
      rintro e w2 ⟨rfl, rfl⟩
      refine ⟨_, rfl, W'.heap.size, rfl, fun j hj hLj => ?_, hC.alloc hC.size _, fun _ => Blk.new _ _ _⟩
      simp only [lidxs, List.mem_cons, List.not_mem_nil, or_false] at hj
      rcases hj with rfl | rfl | rfl | rfl
      · rw [hL] at hLj; cases hLj
      all_goals rfl
    · have L0 : L 0 = true := hdep 0 (by kernel_rfl)
      have hcells := (hE L0).cell
      generalize hr : (execOp _ _).run Tryd.prog W' = r
      refine late_call (w' := W') (f := 10) (args := #[.slice (some ⟨g, 0, none⟩) 7 7, .string b]) (by rw [← hr]; go_simp) ((slices_Index g 7 7 owords b _ (by decide) rfl (fun i hi => by rw [hcells i]; exact owArr_at i hi)).mono ?_)
      rintro e w2 ⟨rfl, rfl⟩
      exact ⟨_, rfl, g, rfl, fun _ _ _ => rfl, hC, fun _ => hE L0⟩
    · generalize hr : (execOp _ _).run Tryd.prog W' = r
      refine late_value (u := .int .i64 (idxL owords b 0 + 1)) (w' := W') (by rw [← hr]; go_simp; try exact IntWalk.i64_in _ (by omega)) ⟨g, rfl, fun _ _ _ => rfl, hC, fun h => hE (by simpa using h)⟩
    · generalize hr : (execOp _ _).run Tryd.prog W' = r
      refine late_value (u := .int .i64 (idxL owords b 0 + 1)) (w' := W') (by rw [← hr]; go_simp; try exact IntWalk.i64_in _ (by omega)) ⟨g, rfl, fun _ _ _ => rfl, hC, fun h => hE (by simpa using h)⟩
    · have hW2 := bstep hW hC
      have c1 := (B.below hC).cell
      have z1 := (B.below hC).lt
      clear hE hall C1 hC B
      obtain ⟨p1, p2⟩ := pt_range c
      have HT := fun w => Lib.hid (impl_ParseTincture c w)
      generalize pt c = X at *
      generalize idxL owords b 0 + 1 = O at *
      cases k1 : ordOk O 0 X
      · go_wp2_with (first | (go_at_call 13; refine (HT _).out.mono ?_; rintro e w5 ⟨rfl, hb5⟩; replace hW2 := bstep hW2 hb5; clear hb5 c1 z1) | (go_at_call 14; refine (impl_OrdinaryText _ _ _ _).mono ?_; rintro e w6 ⟨rfl, hb6⟩; replace hW2 := bstep hW2 hb6; clear hb6))
        have hp := HP.out
        rw [k1] at hp
        simp only [Bool.false_and, Bool.false_eq_true, if_false] at hp
        (try simp only [Exit.inBlock, Exit.then]); refine bodyPost_ret (results_tmp4 rfl _ _ _) rfl ?_
        exact ⟨_, _, _, _, rfl, hp, hW2⟩
      · cases k2 : ((otV O 0 X).toList == s.toList)
        all_goals
          go_wp2_with (first | (go_at_call 13; refine (HT _).out.mono ?_; rintro e w5 ⟨rfl, hb5⟩; replace hW2 := bstep hW2 hb5; clear hb5 c1 z1) | (go_at_call 14; refine (impl_OrdinaryText _ _ _ _).mono ?_; rintro e w6 ⟨rfl, hb6⟩; replace hW2 := bstep hW2 hb6; clear hb6))
          have hp := HP.out
          rw [k1, k2] at hp
          simp only [Bool.true_and, Bool.false_eq_true, if_false, if_true] at hp
          (try simp only [Exit.inBlock, Exit.then]); refine bodyPost_ret (results_tmp4 rfl _ _ _) rfl ?_
          exact ⟨_, _, _, _, rfl, hp, hW2⟩
  · have B : Blk W w.heap.size 9 #[.string a, .string b, .string c, .string d] := B0
    have C1 : Hid (∀ w', Below W.heap.size W w' → w'.cell? ⟨w.heap.size, 1, none⟩ = some (.string b)) := fun w' h => (B.below h).cell 1
    have HP : Hid (PoOk s (if ordOk (idxL owords b 0 + 1) (idxL lwords c 0 + 1) (pt d) && (otV (idxL owords b 0 + 1) (idxL lwords c 0 + 1) (pt d)).toList == s.toList then idxL owords b 0 + 1 else 0) (if ordOk (idxL owords b 0 + 1) (idxL lwords c 0 + 1) (pt d) && (otV (idxL owords b 0 + 1) (idxL lwords c 0 + 1) (pt d)).toList == s.toList then (idxL lwords c 0 + 1) else 0) (if ordOk (idxL owords b 0 + 1) (idxL lwords c 0 + 1) (pt d) && (otV (idxL owords b 0 + 1) (idxL lwords c 0 + 1) (pt d)).toList == s.toList then pt d else 0) (ordOk (idxL owords b 0 + 1) (idxL lwords c 0 + 1) (pt d) && (otV (idxL owords b 0 + 1) (idxL lwords c 0 + 1) (pt d)).toList == s.toList)) := po_impl fun o' l' x' h e => let q := HQ.out o' l' x' h e; ⟨q.1, q.2.1, q.2.2.1⟩
    obtain ⟨i1, i2⟩ := idxL_range owords b 0
    obtain ⟨j1, j2⟩ := idxL_range lwords c 0
    replace i2 : idxL owords b 0 < 7 := by simpa [owords] using i2
    replace j2 : idxL lwords c 0 < 4 := by simpa [lwords] using j2
    clear B0 HQ
    go_upto_region 4 with fail
    refine wp_region_mildL (C := fun w' => Below W.heap.size W w') (γ := Nat) (U := fun g i => if i = 0 then .slice (some ⟨g, 0, none⟩) 7 7 else if i = 4 then .int .i64 (idxL owords b 0) else .int .i64 (idxL owords b 0 + 1)) (E := fun L g w' => L 0 = true → Blk w' g 9 owArr)
      [false, true, true, true, false, false, false, true] 0 (by kernel_rfl) rfl (by kernel_rfl) ⟨rfl, rfl, rfl, Nat.le_refl _, fun _ _ => rfl⟩ (fun h => by cases h) (fun L g a b h1 hE h2 => ⟨h1.trans (h2.mono h1.size), fun h => (hE h).below h2⟩)
      (fun L L' g a hl hE => by rw [hl 0 (by simp [lidxs])]; exact hE) ?_
    refine wpMildL_late ?_
    refine wpMildL_take rfl ?_
    apply Exists.intro
    refine ⟨fun w' hw' => ?_, ?_⟩
    · go_simp
      with_reducible rfl
    simp only [Act.put, List.setIfInBounds_toArray, List.set_cons_zero, List.set_cons_succ]
    refine wpMildL_take rfl ?_
    apply Exists.intro
    refine ⟨fun w' hw' => ?_, ?_⟩
    · go_simp
      with_reducible rfl
    simp only [Act.put, List.setIfInBounds_toArray, List.set_cons_zero, List.set_cons_succ]
    refine wpMildL_take rfl ?_
    apply Exists.intro
    refine ⟨fun w' hw' => ?_, ?_⟩
    · (have hc := C1.out w' hw'; go_simp; with_reducible rfl)
    simp only [Act.put, List.setIfInBounds_toArray, List.set_cons_zero, List.set_cons_succ]
    refine wpMildL_late ?_
    refine wpMildL_late ?_
    refine wpMildL_late ?_
    refine wpMildL_take rfl ?_
    apply Exists.intro
    refine ⟨fun w' hw' => ?_, ?_⟩
    · go_simp
      with_reducible rfl
    simp only [Act.put, List.setIfInBounds_toArray, List.set_cons_zero, List.set_cons_succ]
    refine wpMildL_nil ?_
    refine ⟨lateAll_cons (fun L g W' hC hE hL hdep => ?_) (lateAll_skip (lateAll_skip (lateAll_skip (lateAll_cons (fun L g W' hC hE hL hdep => ?_) (lateAll_cons (fun L g W' hC hE hL hdep => ?_) (lateAll_cons (fun L g W' hC hE hL hdep => ?_) (lateAll_skip lateAll_nil))))))), fun L g W' hall hC hE => ?_⟩
    all_goals simp only [lateputL, Act.put, List.setIfInBounds_toArray, List.set_cons_zero, List.set_cons_succ]
    · generalize hr : (execOp _ _).run Tryd.prog W' = r
      refine late_call (w' := W') (f := 11) (args := #[]) (by rw [← hr]; go_simp) ((impl_ordinaryWords _).mono ?_)
      rintro e w2 ⟨rfl, rfl⟩
      refine ⟨_, rfl, W'.heap.size, rfl, fun j hj hLj => ?_, hC.alloc hC.size _, fun _ => Blk.new _ _ _⟩
      simp only [lidxs, List.mem_cons, List.not_mem_nil, or_false] at hj
      rcases hj with rfl | rfl | rfl | rfl
      · rw [hL] at hLj; cases hLj
      all_goals rfl
    · have L0 : L 0 = true := hdep 0 (by kernel_rfl)
      have hcells := (hE L0).cell
      generalize hr : (execOp _ _).run Tryd.prog W' = r
      refine late_call (w' := W') (f := 10) (args := #[.slice (some ⟨g, 0, none⟩) 7 7, .string b]) (by rw [← hr]; go_simp) ((slices_Index g 7 7 owords b _ (by decide) rfl (fun i hi => by rw [hcells i]; exact owArr_at i hi)).mono ?_)
      rintro e w2 ⟨rfl, rfl⟩
      exact ⟨_, rfl, g, rfl, fun _ _ _ => rfl, hC, fun _ => hE L0⟩
    · generalize hr : (execOp _ _).run Tryd.prog W' = r
      refine late_value (u := .int .i64 (idxL owords b 0 + 1)) (w' := W') (by rw [← hr]; go_simp; try exact IntWalk.i64_in _ (by omega)) ⟨g, rfl, fun _ _ _ => rfl, hC, fun h => hE (by simpa using h)⟩
    · generalize hr : (execOp _ _).run Tryd.prog W' = r
      refine late_value (u := .int .i64 (idxL owords b 0 + 1)) (w' := W') (by rw [← hr]; go_simp; try exact IntWalk.i64_in _ (by omega)) ⟨g, rfl, fun _ _ _ => rfl, hC, fun h => hE (by simpa using h)⟩
    · have C2 : Hid (∀ w', Below W'.heap.size W' w' → w'.cell? ⟨w.heap.size, 2, none⟩ = some (.string c)) := fun w' h => (B.below (bstep hC h)).cell 2
      have HC1 := Lib.hid hC
      clear hE hall C1 hC
      go_upto_region 6 with fail
      refine wp_region_mildL (C := fun w' => Below W'.heap.size W' w') (γ := Nat) (U := fun g i => if i = 0 then .slice (some ⟨g, 0, none⟩) 4 4 else if i = 4 then .int .i64 (idxL lwords c 0) else .int .i64 (idxL lwords c 0 + 1)) (E := fun L g w' => L 0 = true → Blk w' g 9 lwArr)
        [false, true, true, true, false, false, false] 0 (by kernel_rfl) rfl (by kernel_rfl) ⟨rfl, rfl, rfl, Nat.le_refl _, fun _ _ => rfl⟩ (fun h => by cases h) (fun L g a b h1 hE h2 => ⟨h1.trans (h2.mono h1.size), fun h => (hE h).below h2⟩)
        (fun L L' g a hl hE => by rw [hl 0 (by simp [lidxs])]; exact hE) ?_
      refine wpMildL_late ?_
      refine wpMildL_take rfl ?_
      apply Exists.intro
      refine ⟨fun w' hw' => ?_, ?_⟩
      · go_simp
        with_reducible rfl
      simp only [Act.put, List.setIfInBounds_toArray, List.set_cons_zero, List.set_cons_succ]
      refine wpMildL_take rfl ?_
      apply Exists.intro
      refine ⟨fun w' hw' => ?_, ?_⟩
      · go_simp
        with_reducible rfl
      simp only [Act.put, List.setIfInBounds_toArray, List.set_cons_zero, List.set_cons_succ]
      refine wpMildL_take rfl ?_
      apply Exists.intro
      refine ⟨fun w' hw' => ?_, ?_⟩
      · (have hc := C2.out w' hw'; go_simp; with_reducible rfl)
      simp only [Act.put, List.setIfInBounds_toArray, List.set_cons_zero, List.set_cons_succ]
      refine wpMildL_late ?_
      refine wpMildL_late ?_
      refine wpMildL_late ?_
      refine wpMildL_nil ?_
      refine ⟨lateAll_cons (fun L g W' hC hE hL hdep => ?_) (lateAll_skip (lateAll_skip (lateAll_skip (lateAll_cons (fun L g W' hC hE hL hdep => ?_) (lateAll_cons (fun L g W' hC hE hL hdep => ?_) (lateAll_cons (fun L g W' hC hE hL hdep => ?_) lateAll_nil)))))), fun L g W' hall hC hE => ?_⟩
      all_goals simp only [lateputL, Act.put, List.setIfInBounds_toArray, List.set_cons_zero, List.set_cons_succ]
      · generalize hr : (execOp _ _).run Tryd.prog W' = r
        refine late_call (w' := W') (f := 12) (args := #[]) (by rw [← hr]; go_simp) ((impl_lineWords _).mono ?_)
        rintro e w2 ⟨rfl, rfl⟩
        refine ⟨_, rfl, W'.heap.size, rfl, fun j hj hLj => ?_, hC.alloc hC.size _, fun _ => Blk.new _ _ _⟩
        simp only [lidxs, List.mem_cons, List.not_mem_nil, or_false] at hj
        rcases hj with rfl | rfl | rfl | rfl
        · rw [hL] at hLj; cases hLj
        all_goals rfl
      · have L0 : L 0 = true := hdep 0 (by kernel_rfl)
        have hcells := (hE L0).cell
        generalize hr : (execOp _ _).run Tryd.prog W' = r
        refine late_call (w' := W') (f := 10) (args := #[.slice (some ⟨g, 0, none⟩) 4 4, .string c]) (by rw [← hr]; go_simp) ((slices_Index g 4 4 lwords c _ (by decide) rfl (fun i hi => by rw [hcells i]; exact lwArr_at i hi)).mono ?_)
        rintro e w2 ⟨rfl, rfl⟩
        exact ⟨_, rfl, g, rfl, fun _ _ _ => rfl, hC, fun _ => hE L0⟩
      · generalize hr : (execOp _ _).run Tryd.prog W' = r
        refine late_value (u := .int .i64 (idxL lwords c 0 + 1)) (w' := W') (by rw [← hr]; go_simp; try exact IntWalk.i64_in _ (by omega)) ⟨g, rfl, fun _ _ _ => rfl, hC, fun h => hE (by simpa using h)⟩
      · generalize hr : (execOp _ _).run Tryd.prog W' = r
        refine late_value (u := .int .i64 (idxL lwords c 0 + 1)) (w' := W') (by rw [← hr]; go_simp; try exact IntWalk.i64_in _ (by omega)) ⟨g, rfl, fun _ _ _ => rfl, hC, fun h => hE (by simpa using h)⟩
      · have hW2 := bstep (bstep hW HC1.out) hC
        have c1 := (B.below (bstep HC1.out hC)).cell
        have z1 := (B.below (bstep HC1.out hC)).lt
        clear hE hall C2 hC HC1 B
        obtain ⟨p1, p2⟩ := pt_range d
        have HT := fun w => Lib.hid (impl_ParseTincture d w)
        generalize pt d = X at *
        generalize idxL owords b 0 + 1 = O at *
        generalize idxL lwords c 0 + 1 = LL at *
        cases k1 : ordOk O LL X
        · go_wp2_with (first | (go_at_call 13; refine (HT _).out.mono ?_; rintro e w5 ⟨rfl, hb5⟩; replace hW2 := bstep hW2 hb5; clear hb5 c1 z1) | (go_at_call 14; refine (impl_OrdinaryText _ _ _ _).mono ?_; rintro e w6 ⟨rfl, hb6⟩; replace hW2 := bstep hW2 hb6; clear hb6))
          have hp := HP.out
          rw [k1] at hp
          simp only [Bool.false_and, Bool.false_eq_true, if_false] at hp
          (try simp only [Exit.inBlock, Exit.then]); refine bodyPost_ret (results_tmp4 rfl _ _ _) rfl ?_
          exact ⟨_, _, _, _, rfl, hp, hW2⟩
        · cases k2 : ((otV O LL X).toList == s.toList)
          all_goals
            go_wp2_with (first | (go_at_call 13; refine (HT _).out.mono ?_; rintro e w5 ⟨rfl, hb5⟩; replace hW2 := bstep hW2 hb5; clear hb5 c1 z1) | (go_at_call 14; refine (impl_OrdinaryText _ _ _ _).mono ?_; rintro e w6 ⟨rfl, hb6⟩; replace hW2 := bstep hW2 hb6; clear hb6))
            have hp := HP.out
            rw [k1, k2] at hp
            simp only [Bool.true_and, Bool.false_eq_true, if_false, if_true] at hp
            (try simp only [Exit.inBlock, Exit.then]); refine bodyPost_ret (results_tmp4 rfl _ _ _) rfl ?_
            exact ⟨_, _, _, _, rfl, hp, hW2⟩
end Go.Proofs.YtbegoaakgbclkaaDoor
