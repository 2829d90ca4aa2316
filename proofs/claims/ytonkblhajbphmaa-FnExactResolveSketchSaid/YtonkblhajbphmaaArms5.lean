/- The tinctures of arms, and the findings of the rules. Conditions: as each theorem says. -/
import Derived.Test.YtonkblhajbphmaaRows
import Derived.Test.YtonkblhajbphmaaArms2
import Derived.Test.YtonkblhajbphmaaArgs
import Derived.Maps.AppendAt
import Derived.Deep.CutRange
namespace Go.Proofs.Ytonkblhajbphmaa
set_option linter.unusedSimpArgs false
set_option linter.unusedVariables false
open Go.ChangeShapes Go.WideShapes Go.ChangeAt Go.RowKit

/-! ### appends that say where the row lies -/
theorem wp_append3 {ops : Array Oper} {rest : List Oper} {o : Oper} {a : Act} {Q : Exit → Act → World → Prop} {w0 : World} (hgd : o.guard = none) (s x : Operand)
    (ho : o.op = .call { callee := .builtin .append, args := #[s, x], argTypes := #[61, 61] }) (v : Value) (xs : List Int) (y : Int) (B : Nat) (hs : a.eval s = v)
    (hx : a.eval x = .slice (some ⟨w0.heap.size, 0, none⟩) 1 1) (hv : Ints w0 B v xs) (hB : B ≤ w0.heap.size) (hl : xs.length ≤ 1048576)
    (h : ∀ v' w', Ints w' B v' (xs ++ [y]) → w0.grownBy w' v.ownBlock → (v'.ownBlock = v.ownBlock ∨ v'.ownBlock = some (w0.heap.size + 1)) → wpList Try.prog ops Q rest (a.put o.dst v') w') :
    wpList Try.prog ops Q (o :: rest) a (w0.alloc (.cells #[.int .i64 y] 3)) := by
  obtain ⟨i0, hi0, hz0, hz1, hz2⟩ := info_parts int_info
  have hv' : (w0.alloc (.cells #[.int .i64 y] 3)).ownsRow B 3 1 v xs.length (xs.map (Value.int .i64)) := World.ownsRow.alloc hv _
  refine wpList_append_own_at _ hgd s x _ ho B 3 i0 (.int .i64 0) 1 8 Try.underlying61 hi0 hz0 hz1 hz2 rfl (by decide) v xs.length _ hs hv' ⟨w0.heap.size, 0, none⟩ 1 1 [.int .i64 y] hx rfl ?_ ?_ ?_ ?_ ?_ ?_
  · intro j u hu
    match j, hu with
    | 0, hu =>
      simp at hu
      subst hu
      simp [Addr.add]
  · simp [Value.oneCell']
  · simp only [maxLen]; omega
  · omega
  · simp; omega
  · intro v' w' h1 h2 _ h4
    refine h v' w' ?_ ⟨h2.os, h2.tape, h2.output, by have := h2.size; simp at this; omega, fun b hb hne => (h2.block b (by simp; omega) hne).trans (Below.heap_alloc w0 _ b hb)⟩ (by simpa using h4)
    unfold Ints
    simpa using h1
/-- Two rows of different element types lie apart. -/
theorem own_diff {w : World} {B B1 size size1 : Nat} {e e1 : TypeId} {v v1 : Value} {n n1 : Nat} {xs xs1 : List Value} (h : w.ownsRow B e size v n xs) (h1 : w.ownsRow B1 e1 size1 v1 n1 xs1) (hne : e ≠ e1) : v.ownBlock = none ∨ v.ownBlock ≠ v1.ownBlock := by
  rcases h.2 with ⟨rfl, _⟩ | ⟨g, cap, cur, rfl, _, hg, _⟩
  · exact .inl rfl
  · refine .inr fun he => ?_
    rcases h1.2 with ⟨rfl, _⟩ | ⟨g1, cap1, cur1, rfl, _, hg1, _⟩
    · cases he
    · simp only [Value.ownBlock, Option.some.injEq] at he
      subst he
      rw [hg] at hg1
      injection hg1 with hg1
      injection hg1 with _ ht
      exact hne ht
theorem own_blk_ne {w : World} {B size g : Nat} {e t : TypeId} {v : Value} {n : Nat} {xs : List Value} {cs : Array Value} (h : w.ownsRow B e size v n xs) (hg : Blk w g t cs) (hne : e ≠ t) : some g ≠ v.ownBlock := by
  rcases h.2 with ⟨rfl, _⟩ | ⟨g1, cap, cur, rfl, _, hg1, _⟩
  · simp [Value.ownBlock]
  · intro he
    simp only [Value.ownBlock, Option.some.injEq] at he
    subst he
    unfold Blk at hg
    rw [hg] at hg1
    injection hg1 with hg1
    injection hg1 with _ ht
    exact hne ht.symm
theorem grown_below {a b c : World} {r : Option Nat} (h : Below a.heap.size a b) (hg : b.grownBy c r) (hr : ∀ k, r = some k → a.heap.size ≤ k) : Below a.heap.size a c := h.grown hg h.size hr
/-! ### tinctures -/
def addIf (b : Bool) (xs : List Int) (x : Int) : List Int := if b then xs ++ [x] else xs
theorem addIf_len (b : Bool) (xs : List Int) (x : Int) : (addIf b xs x).length ≤ xs.length + 1 := by
  unfold addIf
  split <;> simp
def AV.ft (a : AV) : List Int := ftL a.f.d a.f.a a.f.b
theorem ft_len (a : AV) : a.ft.length ≤ 2 := by
  unfold AV.ft ftL
  split <;> simp
def AV.lay3 (a : AV) (k : Nat) : Int := [a.t, a.on.t, a.ar.t].getD k 0
/-- The tinctures of the field, and of the first k layers. -/
def AV.tK (a : AV) : Nat → List Int
  | 0 => a.ft
  | k + 1 => addIf (a.lay3 k != 0) (a.tK k) (a.lay3 k)
theorem tK_len (a : AV) (k : Nat) : (a.tK k).length ≤ 2 + k := by
  induction k with
  | zero => exact ft_len a
  | succ k ih =>
    have := addIf_len (a.lay3 k != 0) (a.tK k) (a.lay3 k)
    simp only [AV.tK]
    omega
def AV.tL (a : AV) : List Int := addIf (!a.ar.zero) (addIf (!a.on.zero) (addIf (decide (0 < a.o)) a.ft a.t) a.on.t) a.ar.t
theorem fine_zero {c k a t : Int} (h : gFine c k a t = true) : (t != 0) = !gZero c k a t := by
  unfold gFine at h
  cases hz : gZero c k a t
  · rw [hz, Bool.false_or] at h
    have := inB_true.1 (groupOk_tinct h)
    simp
    omega
  · have := gZero_true.1 hz
    simp [this]
theorem tL_eq {a : AV} (h : a.ok = true) : a.tK 3 = a.tL := by
  have h0 := h
  unfold AV.ok at h
  simp only [Bool.and_eq_true] at h
  obtain ⟨_, h2, h3⟩ := h
  have e3 : (a.ar.t != 0) = !a.ar.zero := fine_zero h2
  have e1 : (a.t != 0) = decide (0 < a.o) ∧ (a.on.t != 0) = !a.on.zero := by
    by_cases ho : a.o = 0
    · rw [ho] at h3
      simp only [beq_self_eq_true, if_true, Bool.and_eq_true] at h3
      have ht : a.t = 0 := by simpa using h3.2.1
      have hz : gZero a.on.c a.on.k a.on.a a.on.t = true := h3.2.2
      exact ⟨by rw [ht, ho]; rfl, fine_zero (by unfold gFine; rw [hz]; rfl)⟩
    · have ho' : (a.o == 0) = false := by simpa using ho
      rw [ho'] at h3
      simp only [Bool.false_eq_true, if_false, Bool.and_eq_true] at h3
      have h4 := h3.1
      unfold ordOk at h4
      simp only [Bool.and_eq_true, inB_true] at h4
      refine ⟨?_, fine_zero h3.2⟩
      rw [Bool.eq_iff_iff]
      simp
      omega
  show addIf (a.ar.t != 0) (addIf (a.on.t != 0) (addIf (a.t != 0) a.ft a.t) a.on.t) a.ar.t = _
  rw [e3, e1.1, e1.2]
  rfl
def AV.tV (a : AV) : List Int := if a.ok then a.tL else []
theorem tV_len (a : AV) : a.tV.length ≤ 1048576 := by
  unfold AV.tV AV.tL
  split
  · have h1 := addIf_len (decide (0 < a.o)) a.ft a.t
    have h2 := addIf_len (!a.on.zero) (addIf (decide (0 < a.o)) a.ft a.t) a.on.t
    have h3 := addIf_len (!a.ar.zero) (addIf (!a.on.zero) (addIf (decide (0 < a.o)) a.ft a.t) a.on.t) a.ar.t
    have h4 := ft_len a
    omega
  · simp
theorem lay_lit (a : AV) (k : Nat) (h : k < 3) : (#[Value.int .i64 a.t, .int .i64 a.on.t, .int .i64 a.ar.t] : Array Value)[k]? = some (.int .i64 (a.lay3 k)) := by
  have : k = 0 ∨ k = 1 ∨ k = 2 := by omega
  rcases this with rfl | rfl | rfl <;> rfl
/-- A list that is laid beside the boxed arms. -/
def TS (a : AV) (w : World) (v : Value) (xs : List Int) (W : World) : Prop := Ints W w.heap.size v xs ∧ some w.heap.size ≠ v.ownBlock ∧ Blk W w.heap.size 35 #[Value.int .i64 a.f.d, Value.int .i64 a.f.l, Value.int .i64 a.f.a, Value.int .i64 a.f.b, Value.int .i64 a.o, Value.int .i64 a.l, Value.int .i64 a.t, Value.int .i64 a.on.c, Value.int .i64 a.on.k, Value.int .i64 a.on.a, Value.int .i64 a.on.t, Value.int .i64 a.ar.c, Value.int .i64 a.ar.k, Value.int .i64 a.ar.a, Value.int .i64 a.ar.t] ∧ Below w.heap.size w W
section
variable {a : AV} {w W W' : World} {v v' : Value} {xs : List Int} {y : Int}
theorem TS.below (h : TS a w v xs W) (hb : Below W.heap.size W W') : TS a w v xs W' := ⟨h.1.below hb, h.2.1, h.2.2.1.below hb, bstep h.2.2.2 hb⟩
theorem TS.app (h : TS a w v xs W) (hi : Ints W' w.heap.size v' (xs ++ [y])) (hg : W.grownBy W' v.ownBlock) (hat : v'.ownBlock = v.ownBlock ∨ v'.ownBlock = some (W.heap.size + 1)) : TS a w v' (xs ++ [y]) W' := by
  refine ⟨hi, ?_, h.2.2.1.grown hg h.2.1, grown_below h.2.2.2 hg fun q hq => (h.1.lt q hq).1⟩
  rcases hat with e | e
  · rw [e]; exact h.2.1
  · rw [e]
    intro e'
    injection e' with e'
    have := h.2.2.1.lt
    omega
theorem TS.facts (h : TS a w v xs W) : (∀ i, W.cell? ⟨w.heap.size, i, none⟩ = (#[Value.int .i64 a.f.d, Value.int .i64 a.f.l, Value.int .i64 a.f.a, Value.int .i64 a.f.b, Value.int .i64 a.o, Value.int .i64 a.l, Value.int .i64 a.t, Value.int .i64 a.on.c, Value.int .i64 a.on.k, Value.int .i64 a.on.a, Value.int .i64 a.on.t, Value.int .i64 a.ar.c, Value.int .i64 a.ar.k, Value.int .i64 a.ar.a, Value.int .i64 a.ar.t])[i]?) ∧ w.heap.size < W.heap.size := h.2.2.1.facts
end
set_option maxHeartbeats 1000000 in
theorem spec_l5Tinctures (a : AV) (w : World) : Calls Try.prog 71 #[.agg #[.int .i64 a.f.d, .int .i64 a.f.l, .int .i64 a.f.a, .int .i64 a.f.b, .int .i64 a.o, .int .i64 a.l, .int .i64 a.t, .int .i64 a.on.c, .int .i64 a.on.k, .int .i64 a.on.a, .int .i64 a.on.t, .int .i64 a.ar.c, .int .i64 a.ar.k, .int .i64 a.ar.a, .int .i64 a.ar.t]] w (RetInts1 a.tL w) := by
  go_enter Try.func71, Try.ntmps71
  go_upto_region 1 with (fail)
  have B := Blk.new w 35 #[Value.int .i64 a.f.d, Value.int .i64 a.f.l, Value.int .i64 a.f.a, Value.int .i64 a.f.b, Value.int .i64 a.o, Value.int .i64 a.l, Value.int .i64 a.t, Value.int .i64 a.on.c, Value.int .i64 a.on.k, Value.int .i64 a.on.a, Value.int .i64 a.on.t, Value.int .i64 a.ar.c, Value.int .i64 a.ar.k, Value.int .i64 a.ar.a, Value.int .i64 a.ar.t]
  have hW : Below w.heap.size w (w.alloc (.cells #[Value.int .i64 a.f.d, Value.int .i64 a.f.l, Value.int .i64 a.f.a, Value.int .i64 a.f.b, Value.int .i64 a.o, Value.int .i64 a.l, Value.int .i64 a.t, Value.int .i64 a.on.c, Value.int .i64 a.on.k, Value.int .i64 a.on.a, Value.int .i64 a.on.t, Value.int .i64 a.ar.c, Value.int .i64 a.ar.k, Value.int .i64 a.ar.a, Value.int .i64 a.ar.t] 35)) := (by repeat (first | (with_reducible exact Below.refl _ _) | (with_reducible assumption) | (with_reducible refine balloc ?_ _) | (with_reducible refine bdrew ?_) | (with_reducible refine bdrewN ?_ _) | (with_reducible refine bset ?_ (by first | omega | (simp; done) | (simp; omega)) _) | (with_reducible refine bstep ?_ (by assumption))))
  generalize w.alloc (.cells #[Value.int .i64 a.f.d, Value.int .i64 a.f.l, Value.int .i64 a.f.a, Value.int .i64 a.f.b, Value.int .i64 a.o, Value.int .i64 a.l, Value.int .i64 a.t, Value.int .i64 a.on.c, Value.int .i64 a.on.k, Value.int .i64 a.on.a, Value.int .i64 a.on.t, Value.int .i64 a.ar.c, Value.int .i64 a.ar.k, Value.int .i64 a.ar.a, Value.int .i64 a.ar.t] 35) = W at *
  obtain ⟨c1, z1⟩ := B.facts
  have hzw := hW.size
  go_wp2_with fail
  refine (spec_l3Tinctures _ _ _ _ _).mono ?_
  rintro e w1 ⟨v, rfl, hi, hb1⟩
  have H0 : Hid (TS a w v a.ft w1) := ⟨hi.base hzw, own_ne hi z1, B.below hb1, bstep hW hb1⟩
  clear hi hb1 B c1 z1 hW
  have hl0 : a.ft.length ≤ 1048570 := by
    have := ft_len a
    have := addIf_len (decide (0 < a.o)) a.ft a.t
    have := addIf_len (!gZero a.on.c a.on.k a.on.a a.on.t) (addIf (decide (0 < a.o)) a.ft a.t) a.on.t
    omega
  obtain ⟨c1, z1⟩ := H0.out.facts
  go_upto_if 9 with fail
  go_cut [3] from 4 (fun v' w' => Hid (TS a w v' (addIf (decide (0 < a.o)) a.ft a.t) w'))
  case first =>
    cases hc : (decide (0 < a.o))
    · have HE : Hid ((addIf (decide (0 < a.o)) a.ft a.t) = a.ft) := by show _ = _; unfold addIf; rw [hc]; rfl
      go_wp2
      go_meet
      case rel => show TS _ _ _ _ _; rw [HE.out]; exact H0.out
    · have HE : Hid ((addIf (decide (0 < a.o)) a.ft a.t) = a.ft ++ [a.t]) := by show _ = _; unfold addIf; rw [hc]; rfl
      have hzz := H0.out.2.2.2.size
      go_wp2_with (at_builtin; refine wp_append3 rfl _ _ rfl _ _ _ _ rfl rfl H0.out.1 hzz (by omega) ?_; intro v' w3 hi3 hg3 hat3)
      have HN := Lib.hid (H0.out.app hi3 hg3 hat3)
      clear hi3 hg3 hat3
      go_meet
      case rel => show TS _ _ _ _ _; rw [HE.out]; exact HN.out
  case rest =>
    clear H0 c1 z1
    have H1 := Lib.hid hcut.out
    clear hcut
    have hl1 : (addIf (decide (0 < a.o)) a.ft a.t).length ≤ 1048570 := by
      have := ft_len a
      have := addIf_len (decide (0 < a.o)) a.ft a.t
      have := addIf_len (!gZero a.on.c a.on.k a.on.a a.on.t) (addIf (decide (0 < a.o)) a.ft a.t) a.on.t
      omega
    obtain ⟨c1, z1⟩ := H1.out.facts
    go_upto_if 18 with (go_at_call 63; refine (spec_l4None _ _ _ _ _).mono ?_; rintro e w2 ⟨rfl, hb2⟩)
    have H1' := Lib.hid (H1.out.below hb2)
    clear H1 c1 z1 hb2
    obtain ⟨c1, z1⟩ := H1'.out.facts
    go_cut [3] from 4 (fun v' w' => Hid (TS a w v' (addIf (!gZero a.on.c a.on.k a.on.a a.on.t) (addIf (decide (0 < a.o)) a.ft a.t) a.on.t) w'))
    case first =>
      cases hc : gZero a.on.c a.on.k a.on.a a.on.t
      rotate_left
      · have HE : Hid ((addIf (!gZero a.on.c a.on.k a.on.a a.on.t) (addIf (decide (0 < a.o)) a.ft a.t) a.on.t) = (addIf (decide (0 < a.o)) a.ft a.t)) := by show _ = _; unfold addIf; rw [hc]; rfl
        go_wp2
        go_meet
        case rel => show TS _ _ _ _ _; rw [HE.out]; exact H1'.out
      · have HE : Hid ((addIf (!gZero a.on.c a.on.k a.on.a a.on.t) (addIf (decide (0 < a.o)) a.ft a.t) a.on.t) = (addIf (decide (0 < a.o)) a.ft a.t) ++ [a.on.t]) := by show _ = _; unfold addIf; rw [hc]; rfl
        have hzz := H1'.out.2.2.2.size
        go_wp2_with (at_builtin; refine wp_append3 rfl _ _ rfl _ _ _ _ rfl rfl H1'.out.1 hzz (by omega) ?_; intro v' w3 hi3 hg3 hat3)
        have HN := Lib.hid (H1'.out.app hi3 hg3 hat3)
        clear hi3 hg3 hat3
        go_meet
        case rel => show TS _ _ _ _ _; rw [HE.out]; exact HN.out
    case rest =>
      clear H1' c1 z1
      have H2 := Lib.hid hcut.out
      clear hcut
      have hl2 : (addIf (!gZero a.on.c a.on.k a.on.a a.on.t) (addIf (decide (0 < a.o)) a.ft a.t) a.on.t).length ≤ 1048570 := by
        have := ft_len a
        have := addIf_len (decide (0 < a.o)) a.ft a.t
        have := addIf_len (!gZero a.on.c a.on.k a.on.a a.on.t) (addIf (decide (0 < a.o)) a.ft a.t) a.on.t
        omega
      obtain ⟨c1, z1⟩ := H2.out.facts
      go_upto_if 28 with (go_at_call 63; refine (spec_l4None _ _ _ _ _).mono ?_; rintro e w2 ⟨rfl, hb2⟩)
      have H2' := Lib.hid (H2.out.below hb2)
      clear H2 c1 z1 hb2
      obtain ⟨c1, z1⟩ := H2'.out.facts
      go_cut [3] from 4 (fun v' w' => Hid (TS a w v' (addIf (!gZero a.ar.c a.ar.k a.ar.a a.ar.t) (addIf (!gZero a.on.c a.on.k a.on.a a.on.t) (addIf (decide (0 < a.o)) a.ft a.t) a.on.t) a.ar.t) w'))
      case first =>
        cases hc : gZero a.ar.c a.ar.k a.ar.a a.ar.t
        rotate_left
        · have HE : Hid ((addIf (!gZero a.ar.c a.ar.k a.ar.a a.ar.t) (addIf (!gZero a.on.c a.on.k a.on.a a.on.t) (addIf (decide (0 < a.o)) a.ft a.t) a.on.t) a.ar.t) = (addIf (!gZero a.on.c a.on.k a.on.a a.on.t) (addIf (decide (0 < a.o)) a.ft a.t) a.on.t)) := by show _ = _; unfold addIf; rw [hc]; rfl
          go_wp2
          go_meet
          case rel => show TS _ _ _ _ _; rw [HE.out]; exact H2'.out
        · have HE : Hid ((addIf (!gZero a.ar.c a.ar.k a.ar.a a.ar.t) (addIf (!gZero a.on.c a.on.k a.on.a a.on.t) (addIf (decide (0 < a.o)) a.ft a.t) a.on.t) a.ar.t) = (addIf (!gZero a.on.c a.on.k a.on.a a.on.t) (addIf (decide (0 < a.o)) a.ft a.t) a.on.t) ++ [a.ar.t]) := by show _ = _; unfold addIf; rw [hc]; rfl
          have hzz := H2'.out.2.2.2.size
          go_wp2_with (at_builtin; refine wp_append3 rfl _ _ rfl _ _ _ _ rfl rfl H2'.out.1 hzz (by omega) ?_; intro v' w3 hi3 hg3 hat3)
          have HN := Lib.hid (H2'.out.app hi3 hg3 hat3)
          clear hi3 hg3 hat3
          go_meet
          case rel => show TS _ _ _ _ _; rw [HE.out]; exact HN.out
      case rest =>
        clear H2' c1 z1
        have H3 := Lib.hid hcut.out
        clear hcut
        go_wp2
        go_ret
        exact ⟨_, rfl, H3.out.1, H3.out.2.2.2⟩
end Go.Proofs.Ytonkblhajbphmaa
