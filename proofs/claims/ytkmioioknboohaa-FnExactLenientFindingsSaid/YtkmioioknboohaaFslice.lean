/- Slices of findings: compared, marked, held; and those that are not lenient. Conditions: as each theorem says. -/
import Derived.Test.YtkmioioknboohaaRows
import Derived.Test.YtkmioioknboohaaArms8
namespace Go.Proofs.Ytkmioioknboohaa
set_option linter.unusedSimpArgs false
set_option linter.unusedVariables false
open Go.ChangeShapes Go.WideShapes Go.ChangeAt Go.RowKit

theorem mild_loadM {P : Program} {C : World → Prop} {o : Oper} {a : Act} (ty : TypeId) (x : Operand) (ho : o.op = .load ty x) (g off : Nat) (hx : a.eval x = .pointer (some ⟨g, off, none⟩)) (cs : List Value) (d : TypeDesc)
    (hb : ∀ w, C w → w.rangeAt g off cs) (hu : P.underlying ty = some d) (hd : d.isRow = true) (hi : (P.info? ty).map (·.size) = some cs.length) {R : World → World → Prop} :
    ∀ w, C w → o.quietAt P a (R w) w (.agg cs.toArray) := fun w hw => by
  unfold Oper.quietAt execOp
  simp only [ho, hx, Instr.loadAt, Instr.sureAddr, Sem.run_bind, Sem.run_pure, Result.andThen_ok, run_loadVar_mid w g off ty cs d (hb w hw) hu hd hi]
  exact ⟨rfl, rfl⟩
def NV.zero : NV := ⟨0, 0, 0⟩
theorem flatN_at (xs : List NV) (k j : Nat) (h : k < xs.length) (hj : j < 3) : (flatN xs)[k * 3 + j]? = (xs.getD k .zero).row[j]? := by
  induction xs generalizing k with
  | nil => simp at h
  | cons x xs ih =>
    cases k with
    | zero =>
      have : j = 0 ∨ j = 1 ∨ j = 2 := by omega
      rcases this with rfl | rfl | rfl <;> rfl
    | succ k =>
      have e : (flatN (x :: xs))[(k + 1) * 3 + j]? = (flatN xs)[k * 3 + j]? := by
        have : (k + 1) * 3 + j = (k * 3 + j) + 1 + 1 + 1 := by omega
        rw [this]
        rfl
      rw [e, ih k (by simpa using h)]
      rfl
theorem Finds.shape {w : World} {B : Nat} {v : Value} {xs : List NV} (h : Finds w B v xs) : ∃ A c, v = .slice A xs.length c ∧ ∀ k, k < xs.length → ∃ g, A = some ⟨g, 0, none⟩ ∧ B ≤ g ∧ g < w.heap.size ∧
    (w.cell? ⟨g, k * 3, none⟩ = some (.int .i64 (xs.getD k .zero).p) ∧ w.cell? ⟨g, k * 3 + 1, none⟩ = some (.int .i64 (xs.getD k .zero).u) ∧ w.cell? ⟨g, k * 3 + 2, none⟩ = some (.int .i64 (xs.getD k .zero).l)) ∧ ∀ j, w.frozen? ⟨g, j, none⟩ = false := by
  have h' := h
  unfold Finds at h'
  rcases h.2 with ⟨rfl, h0⟩ | ⟨g, cap, cur, rfl, hB, hg, _⟩
  · exact ⟨none, 0, by rw [h0], fun k hk => by omega⟩
  · refine ⟨some ⟨g, 0, none⟩, cap, rfl, fun k hk => ⟨g, rfl, hB, (Array.getElem?_eq_some_iff.1 hg).1, ⟨?_, ?_, ?_⟩, h'.frozenAt⟩⟩
    · rw [h'.cellAt (k * 3) (by omega), show k * 3 = k * 3 + 0 from rfl, flatN_at xs k 0 hk (by omega)]; rfl
    · rw [h'.cellAt (k * 3 + 1) (by omega), flatN_at xs k 1 hk (by omega)]; rfl
    · rw [h'.cellAt (k * 3 + 2) (by omega), flatN_at xs k 2 hk (by omega)]; rfl
theorem Finds.kept {w w' : World} {B : Nat} {v v1 : Value} {xs : List NV} (h : Finds w B v xs) (hg : w.grownBy w' v1.ownBlock) (hne : v.ownBlock = none ∨ v.ownBlock ≠ v1.ownBlock) : Finds w' B v xs := World.ownsRow.kept h hg hne
theorem Finds.drewN {w : World} {B : Nat} {v : Value} {xs : List NV} (h : Finds w B v xs) (n : Nat) : Finds (w.drewN n) B v xs := h
theorem Finds.room {w : World} {B : Nat} {v : Value} {xs : List NV} (h : Finds w B v xs) : xs.length ≤ maxLen := by
  rcases h.2 with ⟨_, h0⟩ | ⟨g, cap, cur, _, _, _, hn, hm, _⟩
  · omega
  · omega
theorem range3 {w : World} {g k : Nat} {p u l : Int} (h : w.cell? ⟨g, k, none⟩ = some (.int .i64 p) ∧ w.cell? ⟨g, k + 1, none⟩ = some (.int .i64 u) ∧ w.cell? ⟨g, k + 2, none⟩ = some (.int .i64 l)) : w.rangeAt g k [.int .i64 p, .int .i64 u, .int .i64 l] := by
  intro j v hv
  match j, hv with
  | 0, hv => simp at hv; subst hv; exact h.1
  | 1, hv => simp at hv; subst hv; exact h.2.1
  | 2, hv => simp at hv; subst hv; exact h.2.2
theorem cell3 {w w' : World} {g k : Nat} {a b c : Value} (hb : Below w.heap.size w w') (hg : g < w.heap.size) (h : w.cell? ⟨g, k, none⟩ = some a ∧ w.cell? ⟨g, k + 1, none⟩ = some b ∧ w.cell? ⟨g, k + 2, none⟩ = some c) :
    w'.cell? ⟨g, k, none⟩ = some a ∧ w'.cell? ⟨g, k + 1, none⟩ = some b ∧ w'.cell? ⟨g, k + 2, none⟩ = some c :=
  ⟨(hb.cell (p := ⟨g, k, none⟩) hg).trans h.1, (hb.cell (p := ⟨g, k + 1, none⟩) hg).trans h.2.1, (hb.cell (p := ⟨g, k + 2, none⟩) hg).trans h.2.2⟩
theorem laws_eqFinding (a b c : Int) (w : World) : Calls Try.prog 43 #[.agg #[.int .i64 a, .int .i64 b, .int .i64 c], .agg #[.int .i64 a, .int .i64 b, .int .i64 c]] w fun e w' => e = .returned (.bool true) ∧ Below w.heap.size w w' := by
  go_enter Try.func43, Try.ntmps43
  go_wp2
  go_ret
  exact ⟨rfl, (by repeat (first | (with_reducible exact Below.refl _ _) | (with_reducible assumption) | (with_reducible refine balloc ?_ _) | (with_reducible refine bdrew ?_) | (with_reducible refine bdrewN ?_ _) | (with_reducible refine bset ?_ (by first | omega | (simp; done) | (simp; omega)) _) | (with_reducible refine bstep ?_ (by assumption))))⟩
set_option maxHeartbeats 1000000 in
theorem laws_eqFindingS (v u : Value) (xs : List NV) (w : World) (B B' : Nat) (hv : Finds w B v xs) (hu : Finds w B' u xs) : Calls Try.prog 17 #[v, u] w fun e w' => e = .returned (.bool true) ∧ Below w.heap.size w w' := by
  have hm := hv.room
  unfold maxLen at hm
  obtain ⟨A, c, rfl, ha⟩ := hv.shape
  obtain ⟨A', c', rfl, ha'⟩ := hu.shape
  have HA := Lib.hid ha
  have HA' := Lib.hid ha'
  clear ha ha' hv hu
  go_enter Try.func17, Try.ntmps17
  go_wp2
  go_loopw [5] (fun i wr => ∃ k : Nat, k ≤ xs.length ∧ i = .int .i64 k ∧ Hid (Below w.heap.size w wr)) (fun i _ => xs.length - (intOf i).toNat)
  case atStart => exact ⟨0, Nat.zero_le _, rfl, Below.refl _ _⟩
  case round =>
    obtain ⟨k, hk, rfl, hb⟩ := hrel
    by_cases hlt : k < xs.length
    · obtain ⟨g, rfl, _, hg, hc, hf⟩ := HA.out k hlt
      obtain ⟨g', rfl, _, hg', hc', hf'⟩ := HA'.out k hlt
      have C1 : Hid (∀ w', Below wr.heap.size wr w' → w'.rangeAt g (k * 3) [.int .i64 (xs.getD k .zero).p, .int .i64 (xs.getD k .zero).u, .int .i64 (xs.getD k .zero).l]) := fun w' h => range3 (cell3 (bstep hb.out h) hg hc)
      have C2 : Hid (∀ w', Below wr.heap.size wr w' → w'.rangeAt g' (k * 3) [.int .i64 (xs.getD k .zero).p, .int .i64 (xs.getD k .zero).u, .int .i64 (xs.getD k .zero).l]) := fun w' h => range3 (cell3 (bstep hb.out h) hg' hc')
      clear hc hc' hf hf'
      generalize xs.getD k .zero = x at *
      go_wp2
      refine wp_region_mild0 [true, true, true, true, true, true, true, true, true, true] (by kernel_rfl) (by kernel_rfl) ?_
      refine wpMildL_take rfl ?_
      apply Exists.intro
      refine ⟨fun w' hw' => ?_, ?_⟩
      · go_simp
        with_reducible rfl
      simp only [Act.put, List.setIfInBounds_toArray, List.set_cons_zero, List.set_cons_succ]
      refine wpMildL_take rfl ?_
      apply Exists.intro
      refine ⟨fun w' hw' => ?_, ?_⟩
      · go_simp
        with_reducible rfl
      simp only [Act.put, List.setIfInBounds_toArray, List.set_cons_zero, List.set_cons_succ]
      refine wpMildL_take rfl ?_
      apply Exists.intro
      refine ⟨fun w' hw' => ?_, ?_⟩
      · go_simp
        with_reducible rfl
      simp only [Act.put, List.setIfInBounds_toArray, List.set_cons_zero, List.set_cons_succ]
      refine wpMildL_take rfl ⟨_, mild_loadM _ _ rfl _ _ rfl _ _ (fun w' h => C1.out w' h) Try.underlying72 rfl (by kernel_rfl), ?_⟩
      simp only [Act.put, List.setIfInBounds_toArray, List.set_cons_zero, List.set_cons_succ]
      refine wpMildL_take rfl ?_
      apply Exists.intro
      refine ⟨fun w' hw' => ?_, ?_⟩
      · go_simp
        with_reducible rfl
      simp only [Act.put, List.setIfInBounds_toArray, List.set_cons_zero, List.set_cons_succ]
      refine wpMildL_take rfl ?_
      apply Exists.intro
      refine ⟨fun w' hw' => ?_, ?_⟩
      · go_simp
        with_reducible rfl
      simp only [Act.put, List.setIfInBounds_toArray, List.set_cons_zero, List.set_cons_succ]
      refine wpMildL_take rfl ?_
      apply Exists.intro
      refine ⟨fun w' hw' => ?_, ?_⟩
      · go_simp
        with_reducible rfl
      simp only [Act.put, List.setIfInBounds_toArray, List.set_cons_zero, List.set_cons_succ]
      refine wpMildL_take rfl ⟨_, mild_loadM _ _ rfl _ _ rfl _ _ (fun w' h => C2.out w' h) Try.underlying72 rfl (by kernel_rfl), ?_⟩
      simp only [Act.put, List.setIfInBounds_toArray, List.set_cons_zero, List.set_cons_succ]
      refine wpMildL_take rfl ?_
      apply Exists.intro
      refine ⟨fun w' hw' => ?_, ?_⟩
      · go_simp
        exact laws_eqFinding _ _ _ _
      simp only [Act.put, List.setIfInBounds_toArray, List.set_cons_zero, List.set_cons_succ]
      refine wpMildL_take rfl ?_
      apply Exists.intro
      refine ⟨fun w' hw' => ?_, ?_⟩
      · go_simp
        with_reducible rfl
      simp only [Act.put, List.setIfInBounds_toArray, List.set_cons_zero, List.set_cons_succ]
      refine wpMildL_nil ?_
      intro w1 hb1
      have HB := Lib.hid (bstep hb.out hb1)
      clear hb1 hb C1 C2
      go_wp2
      go_roundw
      case rel => exact ⟨k + 1, by omega, by go_num, HB⟩
      case measure => simp [intOf]; omega
    · go_wp2
      go_ret
      exact ⟨rfl, hb.out⟩
def fmark (k : Int) (i : Nat) : NV := ⟨k + 3 * (i : Int), k + 3 * (i : Int) + 1, k + 3 * (i : Int) + 1 + 1⟩
def fmarks (k : Int) (n : Nat) : List NV := (List.range n).map (fmark k)
theorem fmarks_length (k : Int) (n : Nat) : (fmarks k n).length = n := by simp [fmarks]
theorem fmarks_getD (k : Int) (n i : Nat) (h : i < n) : (fmarks k n).getD i .zero = fmark k i := by simp [fmarks, List.getD_eq_getElem?_getD, h]
theorem flatN_app (xs ys : List NV) : flatN (xs ++ ys) = flatN xs ++ flatN ys := by simp [flatN]
theorem flatN_set (xs ys : List NV) (x : NV) (p u l : Int) : (((flatN (xs ++ x :: ys)).set (xs.length * 3) (.int .i64 p)).set (xs.length * 3 + 1) (.int .i64 u)).set (xs.length * 3 + 2) (.int .i64 l) = flatN (xs ++ ⟨p, u, l⟩ :: ys) := by
  have hl := flatN_len xs
  rw [flatN_app, flatN_app, List.set_append_right _ _ (by omega), List.set_append_right _ _ (by omega), List.set_append_right _ _ (by omega), hl]
  have e0 : xs.length * 3 - xs.length * 3 = 0 := by omega
  have e1 : xs.length * 3 + 1 - xs.length * 3 = 1 := by omega
  have e2 : xs.length * 3 + 2 - xs.length * 3 = 2 := by omega
  rw [e0, e1, e2]
  rfl
theorem fmarks_step (k : Int) (xs : List NV) (j : Nat) (h : j < xs.length) :
    (((flatN (fmarks k j ++ xs.drop j)).set (j * 3) (.int .i64 (k + 3 * (j : Int)))).set (j * 3 + 1) (.int .i64 (k + 3 * (j : Int) + 1))).set (j * 3 + 2) (.int .i64 (k + 3 * (j : Int) + 1 + 1)) = flatN (fmarks k (j + 1) ++ xs.drop (j + 1)) := by
  rw [List.drop_eq_getElem_cons h]
  have e : fmarks k (j + 1) = fmarks k j ++ [fmark k j] := by simp [fmarks, List.range_succ]
  rw [e, List.append_assoc]
  have := flatN_set (fmarks k j) (xs.drop (j + 1)) xs[j] (k + 3 * (j : Int)) (k + 3 * (j : Int) + 1) (k + 3 * (j : Int) + 1 + 1)
  rw [fmarks_length] at this
  exact this
theorem grown3 {w a b c : World} {r : Option Nat} (h : w.grownBy a r) (h' : a.grownBy b r) (h'' : b.grownBy c r) : w.grownBy c r := grown_two (grown_two h h') h''
set_option maxHeartbeats 1000000 in
theorem laws_markFindingS (v : Value) (xs : List NV) (k0 : Int) (w : World) (B : Nat) (hv : Finds w B v xs) (h0 : 0 ≤ k0) (h1 : k0 ≤ 1048576) (h2 : xs.length ≤ 1048576) :
    Calls Try.prog 18 #[v, .int .i64 k0] w fun e w' => e = .returned (.int .i64 (k0 + 3 * xs.length)) ∧ Finds w' B v (fmarks k0 xs.length) ∧ w.grownBy w' v.ownBlock := by
  obtain ⟨A, c, rfl, ha⟩ := hv.shape
  have HA := Lib.hid ha
  have HV := Lib.hid hv
  clear ha hv
  go_enter Try.func18, Try.ntmps18
  go_wp2
  go_loopw [1, 5] (fun q i wr => ∃ k : Nat, k ≤ xs.length ∧ i = .int .i64 k ∧ q = .int .i64 (k0 + 3 * k) ∧ Hid (Finds wr B (.slice A xs.length c) (fmarks k0 k ++ xs.drop k)) ∧ Hid (w.grownBy wr (Value.slice A xs.length c).ownBlock)) (fun _ i _ => xs.length - (intOf i).toNat)
  case atStart => exact ⟨0, Nat.zero_le _, rfl, by simp, by simpa [fmarks] using HV, World.grownBy.refl _ _⟩
  case round =>
    obtain ⟨k, hk, rfl, rfl, hi, hg⟩ := hrel
    by_cases hlt : k < xs.length
    · obtain ⟨g, rfl, _, _, _, _⟩ := HA.out k hlt
      have hn : (fmarks k0 k ++ xs.drop k).length = xs.length := by simp [fmarks_length]; omega
      have hi' := hi.out
      obtain ⟨A2, c2, hA2, hs⟩ := hi.out.shape
      have hA3 : some (⟨g, 0, none⟩ : Addr) = A2 := by injection hA2
      clear hA2
      subst hA3
      obtain ⟨g2, hg2, _, _, ⟨d0, d1, d2⟩, hf⟩ := hs k (by omega)
      have hg3 : g = g2 := by injection hg2 with hg2; injection hg2
      clear hg2
      subst hg3
      unfold Finds at hi'
      rw [hn] at hi'
      have s1 := hi'.stored (k * 3) (.int .i64 (k0 + 3 * k))
      have s2 := s1.1.stored (k * 3 + 1) (.int .i64 (k0 + 3 * k + 1))
      have s3 := s2.1.stored (k * 3 + 2) (.int .i64 (k0 + 3 * k + 1 + 1))
      have HST := Lib.hid s3.1
      have HG := Lib.hid (grown3 s1.2 s2.2 s3.2)
      have HN := Lib.hid hn
      clear hs hn hi' s1 s2 s3
      generalize ((fmarks k0 k ++ xs.drop k).getD k .zero) = x at *
      go_wp2
      go_roundw
      case rel =>
        refine ⟨k + 1, by omega, by go_num, by go_num, ?_, ?_⟩
        · have h3 := HST.out
          rw [fmarks_step k0 xs k hlt] at h3
          show Finds _ _ _ _
          unfold Finds
          rw [show (fmarks k0 (k + 1) ++ xs.drop (k + 1)).length = xs.length by simp [fmarks_length]; omega]
          exact h3
        · exact grown_two hg.out HG.out
      case measure => simp [intOf]; omega
    · obtain rfl : k = xs.length := by omega
      go_wp2
      go_ret
      have h6 := hi.out
      rw [List.drop_of_length_le (Nat.le_refl _), List.append_nil] at h6
      exact ⟨rfl, h6, hg.out⟩
theorem laws_heldFindingS (v : Value) (n : Nat) (k0 : Int) (w : World) (B : Nat) (hv : Finds w B v (fmarks k0 n)) (h0 : 0 ≤ k0) (h1 : k0 ≤ 1048576) (h2 : n ≤ 1048576) :
    Calls Try.prog 19 #[v, .int .i64 k0] w fun e w' => e = .returned (.int .i64 (k0 + 3 * n)) ∧ Below w.heap.size w w' := by
  obtain ⟨A, c, rfl, ha⟩ := hv.shape
  rw [fmarks_length] at ha ⊢
  have HA := Lib.hid ha
  clear ha hv
  go_enter Try.func19, Try.ntmps19
  go_wp2
  go_loop [1, 5] (fun q i => ∃ k : Nat, k ≤ n ∧ i = .int .i64 k ∧ q = .int .i64 (k0 + 3 * k)) (fun _ i => n - (intOf i).toNat)
  case atStart => exact ⟨0, Nat.zero_le _, rfl, by simp⟩
  case round =>
    obtain ⟨k, hk, rfl, rfl⟩ := hrel
    by_cases hlt : k < n
    · obtain ⟨g, rfl, _, _, ⟨d0, d1, d2⟩, _⟩ := HA.out k hlt
      rw [fmarks_getD k0 n k hlt] at d0 d1 d2
      simp only [fmark] at d0 d1 d2
      go_wp2
      go_round
      case rel => exact ⟨k + 1, by omega, by go_num, by go_num⟩
      case measure => simp [intOf]; omega
    · obtain rfl : k = n := by omega
      go_wp2
      go_ret
      exact ⟨rfl, Below.refl _ _⟩
/-! ### the findings of arms -/
def AV.fV (a : AV) : List NV := if a.ok then a.n3 else []
theorem fV_len (a : AV) : a.fV.length ≤ 1048576 := by
  have := n3_len a
  unfold AV.fV
  split
  · omega
  · simp
theorem impl_RuleFindings (a : AV) (w : World) : Calls Try.prog 16 #[.agg #[.int .i64 a.f.d, .int .i64 a.f.l, .int .i64 a.f.a, .int .i64 a.f.b, .int .i64 a.o, .int .i64 a.l, .int .i64 a.t, .int .i64 a.on.c, .int .i64 a.on.k, .int .i64 a.on.a, .int .i64 a.on.t, .int .i64 a.ar.c, .int .i64 a.ar.k, .int .i64 a.ar.a, .int .i64 a.ar.t]] w (RetFinds a.ok a.fV w) := by
  unfold AV.fV
  cases h : a.ok
  · go_enter Try.func16, Try.ntmps16
    go_upto_region 1 with (fail)
    have B := Blk.new w 35 #[Value.int .i64 a.f.d, Value.int .i64 a.f.l, Value.int .i64 a.f.a, Value.int .i64 a.f.b, Value.int .i64 a.o, Value.int .i64 a.l, Value.int .i64 a.t, Value.int .i64 a.on.c, Value.int .i64 a.on.k, Value.int .i64 a.on.a, Value.int .i64 a.on.t, Value.int .i64 a.ar.c, Value.int .i64 a.ar.k, Value.int .i64 a.ar.a, Value.int .i64 a.ar.t]
    have hW : Below w.heap.size w (w.alloc (.cells #[Value.int .i64 a.f.d, Value.int .i64 a.f.l, Value.int .i64 a.f.a, Value.int .i64 a.f.b, Value.int .i64 a.o, Value.int .i64 a.l, Value.int .i64 a.t, Value.int .i64 a.on.c, Value.int .i64 a.on.k, Value.int .i64 a.on.a, Value.int .i64 a.on.t, Value.int .i64 a.ar.c, Value.int .i64 a.ar.k, Value.int .i64 a.ar.a, Value.int .i64 a.ar.t] 35)) := (by repeat (first | (with_reducible exact Below.refl _ _) | (with_reducible assumption) | (with_reducible refine balloc ?_ _) | (with_reducible refine bdrew ?_) | (with_reducible refine bdrewN ?_ _) | (with_reducible refine bset ?_ (by first | omega | (simp; done) | (simp; omega)) _) | (with_reducible refine bstep ?_ (by assumption))))
    generalize w.alloc (.cells #[Value.int .i64 a.f.d, Value.int .i64 a.f.l, Value.int .i64 a.f.a, Value.int .i64 a.f.b, Value.int .i64 a.o, Value.int .i64 a.l, Value.int .i64 a.t, Value.int .i64 a.on.c, Value.int .i64 a.on.k, Value.int .i64 a.on.a, Value.int .i64 a.on.t, Value.int .i64 a.ar.c, Value.int .i64 a.ar.k, Value.int .i64 a.ar.a, Value.int .i64 a.ar.t] 35) = W at *
    obtain ⟨c1, z1⟩ := B.facts
    go_wp2_with (first | ((with_reducible refine wp_ldA' ?_ B ?_); (focus (refine ⟨rfl, ⟨_, rfl, ?_⟩, rfl⟩; simp [go_sem]; done))) | (go_at_call 41; refine (impl_IsValidArms a _).mono ?_; rintro e w1 ⟨rfl, hb1⟩; clear c1 z1; replace B := B.below hb1; obtain ⟨c1, z1⟩ := B.facts; replace hW := bstep hW hb1; clear hb1))
    go_ret2
    exact ⟨_, rfl, Finds.nil _ _, hW⟩
  · go_enter Try.func16, Try.ntmps16
    go_upto_region 1 with (fail)
    have B := Blk.new w 35 #[Value.int .i64 a.f.d, Value.int .i64 a.f.l, Value.int .i64 a.f.a, Value.int .i64 a.f.b, Value.int .i64 a.o, Value.int .i64 a.l, Value.int .i64 a.t, Value.int .i64 a.on.c, Value.int .i64 a.on.k, Value.int .i64 a.on.a, Value.int .i64 a.on.t, Value.int .i64 a.ar.c, Value.int .i64 a.ar.k, Value.int .i64 a.ar.a, Value.int .i64 a.ar.t]
    have hW : Below w.heap.size w (w.alloc (.cells #[Value.int .i64 a.f.d, Value.int .i64 a.f.l, Value.int .i64 a.f.a, Value.int .i64 a.f.b, Value.int .i64 a.o, Value.int .i64 a.l, Value.int .i64 a.t, Value.int .i64 a.on.c, Value.int .i64 a.on.k, Value.int .i64 a.on.a, Value.int .i64 a.on.t, Value.int .i64 a.ar.c, Value.int .i64 a.ar.k, Value.int .i64 a.ar.a, Value.int .i64 a.ar.t] 35)) := (by repeat (first | (with_reducible exact Below.refl _ _) | (with_reducible assumption) | (with_reducible refine balloc ?_ _) | (with_reducible refine bdrew ?_) | (with_reducible refine bdrewN ?_ _) | (with_reducible refine bset ?_ (by first | omega | (simp; done) | (simp; omega)) _) | (with_reducible refine bstep ?_ (by assumption))))
    generalize w.alloc (.cells #[Value.int .i64 a.f.d, Value.int .i64 a.f.l, Value.int .i64 a.f.a, Value.int .i64 a.f.b, Value.int .i64 a.o, Value.int .i64 a.l, Value.int .i64 a.t, Value.int .i64 a.on.c, Value.int .i64 a.on.k, Value.int .i64 a.on.a, Value.int .i64 a.on.t, Value.int .i64 a.ar.c, Value.int .i64 a.ar.k, Value.int .i64 a.ar.a, Value.int .i64 a.ar.t] 35) = W at *
    obtain ⟨c1, z1⟩ := B.facts
    go_wp2_with (first | ((with_reducible refine wp_ldA' ?_ B ?_); (focus (refine ⟨rfl, ⟨_, rfl, ?_⟩, rfl⟩; simp [go_sem]; done))) | (go_at_call 41; refine (impl_IsValidArms a _).mono ?_; rintro e w1 ⟨rfl, hb1⟩; clear c1 z1; replace B := B.below hb1; obtain ⟨c1, z1⟩ := B.facts; replace hW := bstep hW hb1; clear hb1) | (go_at_call 42; refine (impl_Arms_findings a _).mono ?_; rintro e w2 ⟨v, rfl, hi, hb2⟩))
    go_ret2
    exact ⟨_, rfl, hi.base hW.size, bstep hW hb2⟩
theorem spec_RuleFindings (a : AV) (w : World) : Calls Try.prog 14 #[.agg #[.int .i64 a.f.d, .int .i64 a.f.l, .int .i64 a.f.a, .int .i64 a.f.b, .int .i64 a.o, .int .i64 a.l, .int .i64 a.t, .int .i64 a.on.c, .int .i64 a.on.k, .int .i64 a.on.a, .int .i64 a.on.t, .int .i64 a.ar.c, .int .i64 a.ar.k, .int .i64 a.ar.a, .int .i64 a.ar.t]] w (RetFinds a.ok a.fV w) := by
  unfold AV.fV
  cases h : a.ok
  · go_enter Try.func14, Try.ntmps14
    go_upto_region 1 with (fail)
    have B := Blk.new w 35 #[Value.int .i64 a.f.d, Value.int .i64 a.f.l, Value.int .i64 a.f.a, Value.int .i64 a.f.b, Value.int .i64 a.o, Value.int .i64 a.l, Value.int .i64 a.t, Value.int .i64 a.on.c, Value.int .i64 a.on.k, Value.int .i64 a.on.a, Value.int .i64 a.on.t, Value.int .i64 a.ar.c, Value.int .i64 a.ar.k, Value.int .i64 a.ar.a, Value.int .i64 a.ar.t]
    have hW : Below w.heap.size w (w.alloc (.cells #[Value.int .i64 a.f.d, Value.int .i64 a.f.l, Value.int .i64 a.f.a, Value.int .i64 a.f.b, Value.int .i64 a.o, Value.int .i64 a.l, Value.int .i64 a.t, Value.int .i64 a.on.c, Value.int .i64 a.on.k, Value.int .i64 a.on.a, Value.int .i64 a.on.t, Value.int .i64 a.ar.c, Value.int .i64 a.ar.k, Value.int .i64 a.ar.a, Value.int .i64 a.ar.t] 35)) := (by repeat (first | (with_reducible exact Below.refl _ _) | (with_reducible assumption) | (with_reducible refine balloc ?_ _) | (with_reducible refine bdrew ?_) | (with_reducible refine bdrewN ?_ _) | (with_reducible refine bset ?_ (by first | omega | (simp; done) | (simp; omega)) _) | (with_reducible refine bstep ?_ (by assumption))))
    generalize w.alloc (.cells #[Value.int .i64 a.f.d, Value.int .i64 a.f.l, Value.int .i64 a.f.a, Value.int .i64 a.f.b, Value.int .i64 a.o, Value.int .i64 a.l, Value.int .i64 a.t, Value.int .i64 a.on.c, Value.int .i64 a.on.k, Value.int .i64 a.on.a, Value.int .i64 a.on.t, Value.int .i64 a.ar.c, Value.int .i64 a.ar.k, Value.int .i64 a.ar.a, Value.int .i64 a.ar.t] 35) = W at *
    obtain ⟨c1, z1⟩ := B.facts
    go_wp2_with (first | ((with_reducible refine wp_ldA' ?_ B ?_); (focus (refine ⟨rfl, ⟨_, rfl, ?_⟩, rfl⟩; simp [go_sem]; done))) | (go_at_call 37; refine (spec_l5Good a _).mono ?_; rintro e w1 ⟨rfl, hb1⟩; clear c1 z1; replace B := B.below hb1; obtain ⟨c1, z1⟩ := B.facts; replace hW := bstep hW hb1; clear hb1))
    go_ret2
    exact ⟨_, rfl, (Finds.lit _).base hW.size, balloc hW _⟩
  · go_enter Try.func14, Try.ntmps14
    go_upto_region 1 with (fail)
    have B := Blk.new w 35 #[Value.int .i64 a.f.d, Value.int .i64 a.f.l, Value.int .i64 a.f.a, Value.int .i64 a.f.b, Value.int .i64 a.o, Value.int .i64 a.l, Value.int .i64 a.t, Value.int .i64 a.on.c, Value.int .i64 a.on.k, Value.int .i64 a.on.a, Value.int .i64 a.on.t, Value.int .i64 a.ar.c, Value.int .i64 a.ar.k, Value.int .i64 a.ar.a, Value.int .i64 a.ar.t]
    have hW : Below w.heap.size w (w.alloc (.cells #[Value.int .i64 a.f.d, Value.int .i64 a.f.l, Value.int .i64 a.f.a, Value.int .i64 a.f.b, Value.int .i64 a.o, Value.int .i64 a.l, Value.int .i64 a.t, Value.int .i64 a.on.c, Value.int .i64 a.on.k, Value.int .i64 a.on.a, Value.int .i64 a.on.t, Value.int .i64 a.ar.c, Value.int .i64 a.ar.k, Value.int .i64 a.ar.a, Value.int .i64 a.ar.t] 35)) := (by repeat (first | (with_reducible exact Below.refl _ _) | (with_reducible assumption) | (with_reducible refine balloc ?_ _) | (with_reducible refine bdrew ?_) | (with_reducible refine bdrewN ?_ _) | (with_reducible refine bset ?_ (by first | omega | (simp; done) | (simp; omega)) _) | (with_reducible refine bstep ?_ (by assumption))))
    generalize w.alloc (.cells #[Value.int .i64 a.f.d, Value.int .i64 a.f.l, Value.int .i64 a.f.a, Value.int .i64 a.f.b, Value.int .i64 a.o, Value.int .i64 a.l, Value.int .i64 a.t, Value.int .i64 a.on.c, Value.int .i64 a.on.k, Value.int .i64 a.on.a, Value.int .i64 a.on.t, Value.int .i64 a.ar.c, Value.int .i64 a.ar.k, Value.int .i64 a.ar.a, Value.int .i64 a.ar.t] 35) = W at *
    obtain ⟨c1, z1⟩ := B.facts
    go_wp2_with (first | ((with_reducible refine wp_ldA' ?_ B ?_); (focus (refine ⟨rfl, ⟨_, rfl, ?_⟩, rfl⟩; simp [go_sem]; done))) | (go_at_call 37; refine (spec_l5Good a _).mono ?_; rintro e w1 ⟨rfl, hb1⟩; clear c1 z1; replace B := B.below hb1; obtain ⟨c1, z1⟩ := B.facts; replace hW := bstep hW hb1; clear hb1) | (go_at_call 38; refine (spec_l8Findings a _).mono ?_; rintro e w2 ⟨v, rfl, hi, hb2⟩))
    go_ret2
    exact ⟨_, rfl, hi.base hW.size, bstep hW hb2⟩
end Go.Proofs.Ytkmioioknboohaa
