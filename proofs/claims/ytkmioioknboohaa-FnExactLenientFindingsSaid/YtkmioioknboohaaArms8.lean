/- The findings of the rules. Conditions: as each theorem says. -/
import Derived.Test.YtkmioioknboohaaRows
import Derived.Test.YtkmioioknboohaaArms6
namespace Go.Proofs.Ytkmioioknboohaa
set_option linter.unusedSimpArgs false
set_option linter.unusedVariables false
open Go.ChangeShapes Go.WideShapes Go.ChangeAt Go.RowKit

structure NV where
  p : Int
  u : Int
  l : Int
def NV.row (x : NV) : List Value := [.int .i64 x.p, .int .i64 x.u, .int .i64 x.l]
def flatN (xs : List NV) : List Value := xs.flatMap NV.row
theorem flatN_len (xs : List NV) : (flatN xs).length = xs.length * 3 := by
  induction xs with
  | nil => rfl
  | cons x xs ih => simp [flatN, NV.row] at ih ⊢; omega
/-- A list of findings of the call's own. -/
def Finds (w : World) (B : Nat) (v : Value) (xs : List NV) : Prop := w.ownsRow B 72 3 v xs.length (flatN xs)
section
variable {w w' : World} {B : Nat} {v : Value} {xs : List NV}
theorem Finds.below (h : Finds w B v xs) (hb : Below w.heap.size w w') : Finds w' B v xs := own_below h hb
theorem Finds.base {B' : Nat} (h : Finds w B v xs) (hB : B' ≤ B) : Finds w B' v xs := own_base h hB
theorem Finds.nil (w : World) (B : Nat) : Finds w B (.slice none 0 0) [] := World.ownsRow_nil _ _ _ _
theorem Finds.lit (w : World) : Finds (w.alloc (.cells #[] 72)) w.heap.size (.slice (some ⟨w.heap.size, 0, none⟩) 0 0) [] := by
  have := World.ownsRow_lit (base := w.heap.size) (e := 72) (size := 3) w #[] 0 (Nat.le_refl _) (by decide) rfl
  simpa [Finds, flatN] using this
end
theorem find_info : (Try.prog.info? 72).map (fun i => (i.zero, i.size, i.bytes)) = some (some (.agg #[.int .i64 0, .int .i64 0, .int .i64 0]), 3, 24) := by kernel_rfl
theorem wp_appendN {ops : Array Oper} {rest : List Oper} {o : Oper} {a : Act} {Q : Exit → Act → World → Prop} {w0 : World} {p u l : Int} (hgd : o.guard = none) (s x : Operand)
    (ho : o.op = .call { callee := .builtin .append, args := #[s, x], argTypes := #[45, 45] }) (v : Value) (xs : List NV) (B : Nat) (hs : a.eval s = v)
    (hx : a.eval x = .slice (some ⟨w0.heap.size, 0, none⟩) 1 1) (hv : Finds w0 B v xs) (hB : B ≤ w0.heap.size) (hl : xs.length ≤ 1000)
    (h : ∀ v' w', Finds w' B v' (xs ++ [⟨p, u, l⟩]) → w0.grownBy w' v.ownBlock → wpList Try.prog ops Q rest (a.put o.dst v') w') :
    wpList Try.prog ops Q (o :: rest) a (w0.alloc (.cells #[.int .i64 p, .int .i64 u, .int .i64 l] 72)) := by
  obtain ⟨i0, hi0, hz0, hz1, hz2⟩ := info_parts find_info
  have hv' : (w0.alloc (.cells #[.int .i64 p, .int .i64 u, .int .i64 l] 72)).ownsRow B 72 3 v xs.length (flatN xs) := World.ownsRow.alloc hv _
  refine wpList_append_own _ hgd s x _ ho B 72 i0 _ 3 24 Try.underlying45 hi0 hz0 hz1 hz2 rfl (by decide) v xs.length _ hs hv' ⟨w0.heap.size, 0, none⟩ 1 1 [.int .i64 p, .int .i64 u, .int .i64 l] hx rfl ?_ ?_ ?_ ?_ ?_ ?_
  · intro j u hu
    match j, hu with
    | 0, hu =>
      simp at hu
      subst hu
      simp [Addr.add]
    | 1, hu =>
      simp at hu
      subst hu
      simp [Addr.add]
    | 2, hu =>
      simp at hu
      subst hu
      simp [Addr.add]
  · simp [Value.oneCell']
  · simp only [maxLen]; omega
  · omega
  · simp; omega
  · intro v' w' h1 h2 _
    refine h v' w' ?_ ⟨h2.os, h2.tape, h2.output, by have := h2.size; simp at this; omega, fun b hb hne => (h2.block b (by simp; omega) hne).trans (Below.heap_alloc w0 _ b hb)⟩
    unfold Finds
    have e : flatN (xs ++ [⟨p, u, l⟩]) = flatN xs ++ [.int .i64 p, .int .i64 u, .int .i64 l] := by simp [flatN, NV.row]
    rw [e]
    simpa using h1
def addN (b : Bool) (xs : List NV) (y : NV) : List NV := if b then xs ++ [y] else xs
theorem addN_len (b : Bool) (xs : List NV) (y : NV) : (addN b xs y).length ≤ xs.length + 1 := by
  unfold addN
  split <;> simp
def AV.b1 (a : AV) : Bool := a.o != 0 && brk a.t a.ft
def AV.b2 (a : AV) : Bool := !gZero a.on.c a.on.k a.on.a a.on.t && tclash a.on.t a.t
def AV.b3 (a : AV) : Bool := !gZero a.ar.c a.ar.k a.ar.a a.ar.t && brk a.ar.t a.ft
def AV.n1 (a : AV) : List NV := addN a.b1 [] ⟨1, a.t, a.f.a⟩
def AV.n2 (a : AV) : List NV := addN a.b2 a.n1 ⟨2, a.on.t, a.t⟩
def AV.n3 (a : AV) : List NV := addN a.b3 a.n2 ⟨3, a.ar.t, a.f.a⟩
theorem n1_len (a : AV) : a.n1.length ≤ 1 := addN_len _ _ _
theorem n2_len (a : AV) : a.n2.length ≤ 2 := by
  have := addN_len a.b2 a.n1 ⟨2, a.on.t, a.t⟩
  have := n1_len a
  unfold AV.n2
  omega
theorem n3_len (a : AV) : a.n3.length ≤ 3 := by
  have := addN_len a.b3 a.n2 ⟨3, a.ar.t, a.f.a⟩
  have := n2_len a
  unfold AV.n3
  omega
/-- The findings so far, beside the boxed arms and the field's tinctures. -/
def FS (a : AV) (w : World) (ys : List Int) (vf v : Value) (xs : List NV) (W : World) : Prop := Finds W w.heap.size v xs ∧ (∃ Bf, Ints W Bf vf ys) ∧ Blk W w.heap.size 35 #[Value.int .i64 a.f.d, Value.int .i64 a.f.l, Value.int .i64 a.f.a, Value.int .i64 a.f.b, Value.int .i64 a.o, Value.int .i64 a.l, Value.int .i64 a.t, Value.int .i64 a.on.c, Value.int .i64 a.on.k, Value.int .i64 a.on.a, Value.int .i64 a.on.t, Value.int .i64 a.ar.c, Value.int .i64 a.ar.k, Value.int .i64 a.ar.a, Value.int .i64 a.ar.t] ∧ Below w.heap.size w W
section
variable {a : AV} {w W W' : World} {ys : List Int} {vf v v' : Value} {xs : List NV} {y : NV}
theorem FS.below (h : FS a w ys vf v xs W) (hb : Below W.heap.size W W') : FS a w ys vf v xs W' := ⟨h.1.below hb, h.2.1.imp fun _ hi => hi.below hb, h.2.2.1.below hb, bstep h.2.2.2 hb⟩
theorem FS.app (h : FS a w ys vf v xs W) (hi : Finds W' w.heap.size v' (xs ++ [y])) (hg : W.grownBy W' v.ownBlock) : FS a w ys vf v' (xs ++ [y]) W' :=
  ⟨hi, h.2.1.imp fun _ hb => hb.kept hg (own_diff hb h.1 (by decide)), h.2.2.1.grown hg (own_blk_ne h.1 h.2.2.1 (by decide)), grown_below h.2.2.2 hg fun q hq => (h.1.lt q hq).1⟩
theorem FS.facts (h : FS a w ys vf v xs W) : (∀ i, W.cell? ⟨w.heap.size, i, none⟩ = (#[Value.int .i64 a.f.d, Value.int .i64 a.f.l, Value.int .i64 a.f.a, Value.int .i64 a.f.b, Value.int .i64 a.o, Value.int .i64 a.l, Value.int .i64 a.t, Value.int .i64 a.on.c, Value.int .i64 a.on.k, Value.int .i64 a.on.a, Value.int .i64 a.on.t, Value.int .i64 a.ar.c, Value.int .i64 a.ar.k, Value.int .i64 a.ar.a, Value.int .i64 a.ar.t])[i]?) ∧ w.heap.size < W.heap.size := h.2.2.1.facts
theorem FS.reads (h : FS a w ys vf v xs W) : ∃ A c, vf = .slice A ys.length c ∧ Hid (Reads W A ys) := by
  obtain ⟨Bb, hb⟩ := h.2.1
  exact hb.reads
theorem FS.room (h : FS a w ys vf v xs W) : w.heap.size ≤ W.heap.size := h.2.2.2.size
end
/-- What a function that returns findings has done. -/
def RetFinds1 (xs : List NV) (w : World) (e : Ending) (w' : World) : Prop := ∃ v, e = .returned v ∧ Finds w' w.heap.size v xs ∧ Below w.heap.size w w'
def RetFinds (ok : Bool) (xs : List NV) (w : World) (e : Ending) (w' : World) : Prop := ∃ v, e = .returned (.tuple #[v, .bool ok]) ∧ Finds w' w.heap.size v xs ∧ Below w.heap.size w w'
theorem b1_eq (a : AV) : a.b1 = (a.o != 0 && brk a.t a.ft) := rfl
set_option maxHeartbeats 2000000 in
theorem impl_Arms_findings (a : AV) (w : World) : Calls Try.prog 42 #[.agg #[.int .i64 a.f.d, .int .i64 a.f.l, .int .i64 a.f.a, .int .i64 a.f.b, .int .i64 a.o, .int .i64 a.l, .int .i64 a.t, .int .i64 a.on.c, .int .i64 a.on.k, .int .i64 a.on.a, .int .i64 a.on.t, .int .i64 a.ar.c, .int .i64 a.ar.k, .int .i64 a.ar.a, .int .i64 a.ar.t]] w (RetFinds1 a.n3 w) := by
  have he0 := eqg_group
  have he1 := neq_group
  go_enter Try.func42, Try.ntmps42
  go_upto_region 1 with (fail)
  have B := Blk.new w 35 #[Value.int .i64 a.f.d, Value.int .i64 a.f.l, Value.int .i64 a.f.a, Value.int .i64 a.f.b, Value.int .i64 a.o, Value.int .i64 a.l, Value.int .i64 a.t, Value.int .i64 a.on.c, Value.int .i64 a.on.k, Value.int .i64 a.on.a, Value.int .i64 a.on.t, Value.int .i64 a.ar.c, Value.int .i64 a.ar.k, Value.int .i64 a.ar.a, Value.int .i64 a.ar.t]
  have hW : Below w.heap.size w (w.alloc (.cells #[Value.int .i64 a.f.d, Value.int .i64 a.f.l, Value.int .i64 a.f.a, Value.int .i64 a.f.b, Value.int .i64 a.o, Value.int .i64 a.l, Value.int .i64 a.t, Value.int .i64 a.on.c, Value.int .i64 a.on.k, Value.int .i64 a.on.a, Value.int .i64 a.on.t, Value.int .i64 a.ar.c, Value.int .i64 a.ar.k, Value.int .i64 a.ar.a, Value.int .i64 a.ar.t] 35)) := (by repeat (first | (with_reducible exact Below.refl _ _) | (with_reducible assumption) | (with_reducible refine balloc ?_ _) | (with_reducible refine bdrew ?_) | (with_reducible refine bdrewN ?_ _) | (with_reducible refine bset ?_ (by first | omega | (simp; done) | (simp; omega)) _) | (with_reducible refine bstep ?_ (by assumption))))
  generalize w.alloc (.cells #[Value.int .i64 a.f.d, Value.int .i64 a.f.l, Value.int .i64 a.f.a, Value.int .i64 a.f.b, Value.int .i64 a.o, Value.int .i64 a.l, Value.int .i64 a.t, Value.int .i64 a.on.c, Value.int .i64 a.on.k, Value.int .i64 a.on.a, Value.int .i64 a.on.t, Value.int .i64 a.ar.c, Value.int .i64 a.ar.k, Value.int .i64 a.ar.a, Value.int .i64 a.ar.t] 35) = W at *
  obtain ⟨c1, z1⟩ := B.facts
  have hzw := hW.size
  go_upto_region 2 with (go_at_call 60; refine (impl_Field_tinctures _ _ _ _ _).mono ?_; rintro e w1 ⟨vf, rfl, hi, hb1⟩)
  have H0 : Hid (FS a w a.ft vf (.slice (some ⟨W.heap.size, 0, none⟩) 0 0) [] w1) := ⟨((Finds.lit W).below hb1).base hzw, ⟨_, hi⟩, (B.alloc _).below hb1, bstep (balloc hW _) hb1⟩
  clear B c1 z1 hW hzw hi hb1
  generalize Value.slice (some ⟨W.heap.size, 0, none⟩) 0 0 = v0 at *
  go_cut [17] from 5 (fun c w' => c = .bool a.b1 ∧ Hid (FS a w a.ft vf v0 [] w'))
  case first =>
    obtain ⟨c1, z1⟩ := H0.out.facts
    obtain ⟨A, c, rfl, HR⟩ := H0.out.reads
    cases hz : (a.o != 0)
    · have HE : Hid (a.b1 = false) := by show _ = _; unfold AV.b1; rw [hz]; rfl
      go_wp2
      go_meet
      case rel => exact ⟨congrArg Value.bool HE.out.symm, H0⟩
    · have HE : Hid (a.b1 = brk a.t a.ft) := by show _ = _; unfold AV.b1; rw [hz]; rfl
      go_wp2_with (first | (go_at_call 74; refine (impl_breaks _ _ _ a.ft _ _ rfl (by have := ft_len a; unfold maxLen; omega) HR.out).mono ?_; rintro e w' ⟨rfl, rfl⟩) | (go_at_call 75; refine (impl_clash _ _ _).mono ?_; rintro e w' ⟨rfl, rfl⟩))
      go_meet
      case rel => exact ⟨congrArg Value.bool HE.out.symm, H0⟩
  case rest =>
    obtain ⟨rfl, H0b⟩ := hcut
    clear H0
    go_upto_if 17 with fail
    go_cut [3] from 5 (fun v' w' => ∃ u, u = v' ∧ Hid (FS a w a.ft vf u a.n1 w'))
    case first =>
      obtain ⟨c1, z1⟩ := H0b.out.facts
      cases hz : a.b1
      · have HE : Hid (a.n1 = []) := by show _ = _; unfold AV.n1 addN; rw [hz]; rfl
        go_wp2
        go_meet
        case rel => exact ⟨_, rfl, by show FS _ _ _ _ _ _ _; rw [HE.out]; exact H0b.out⟩
      · have HE : Hid (a.n1 = [] ++ [⟨1, a.t, a.f.a⟩]) := by show _ = _; unfold AV.n1 addN; rw [hz]; rfl
        have hzz := H0b.out.room
        have hl : ([] : List NV).length ≤ 1000 := (by simp)
        go_wp2_with (at_builtin; refine wp_appendN rfl _ _ rfl _ _ _ rfl rfl H0b.out.1 hzz hl ?_; intro v' w3 hi3 hg3)
        have HN := Lib.hid (H0b.out.app hi3 hg3)
        clear hi3 hg3
        go_meet
        case rel => exact ⟨_, rfl, by show FS _ _ _ _ _ _ _; rw [HE.out]; exact HN.out⟩
    case rest =>
      obtain ⟨v1, rfl, H1⟩ := hcut
      clear H0b
      go_upto_region 4 with fail
      go_cut [38] from 5 (fun c w' => c = .bool a.b2 ∧ Hid (FS a w a.ft vf v1 a.n1 w'))
      case first =>
        obtain ⟨c1, z1⟩ := H1.out.facts
        cases hz : gZero a.on.c a.on.k a.on.a a.on.t
        · have HE : Hid (a.b2 = tclash a.on.t a.t) := by show _ = _; unfold AV.b2; rw [hz]; rfl
          have hg : gEq a.on.c a.on.k a.on.a a.on.t 0 0 0 0 = false := hz
          go_wp2_with (go_at_call 75; refine (impl_clash _ _ _).mono ?_; rintro e w' ⟨rfl, rfl⟩)
          go_meet
          case rel => exact ⟨congrArg Value.bool HE.out.symm, H1⟩
        · have HE : Hid (a.b2 = false) := by show _ = _; unfold AV.b2; rw [hz]; rfl
          have hg : gEq a.on.c a.on.k a.on.a a.on.t 0 0 0 0 = true := hz
          go_wp2
          go_meet
          case rel => exact ⟨congrArg Value.bool HE.out.symm, H1⟩
      case rest =>
        obtain ⟨rfl, H1b⟩ := hcut
        clear H1
        go_upto_if 38 with fail
        go_cut [3] from 5 (fun v' w' => ∃ u, u = v' ∧ Hid (FS a w a.ft vf u a.n2 w'))
        case first =>
          obtain ⟨c1, z1⟩ := H1b.out.facts
          cases hz : a.b2
          · have HE : Hid (a.n2 = a.n1) := by show _ = _; unfold AV.n2 addN; rw [hz]; rfl
            go_wp2
            go_meet
            case rel => exact ⟨_, rfl, by show FS _ _ _ _ _ _ _; rw [HE.out]; exact H1b.out⟩
          · have HE : Hid (a.n2 = a.n1 ++ [⟨2, a.on.t, a.t⟩]) := by show _ = _; unfold AV.n2 addN; rw [hz]; rfl
            have hzz := H1b.out.room
            have hl : a.n1.length ≤ 1000 := (by have := n1_len a; omega)
            go_wp2_with (at_builtin; refine wp_appendN rfl _ _ rfl _ _ _ rfl rfl H1b.out.1 hzz hl ?_; intro v' w3 hi3 hg3)
            have HN := Lib.hid (H1b.out.app hi3 hg3)
            clear hi3 hg3
            go_meet
            case rel => exact ⟨_, rfl, by show FS _ _ _ _ _ _ _; rw [HE.out]; exact HN.out⟩
        case rest =>
          obtain ⟨v2, rfl, H2⟩ := hcut
          clear H1b
          go_upto_region 6 with fail
          go_cut [58] from 5 (fun c w' => c = .bool a.b3 ∧ Hid (FS a w a.ft vf v2 a.n2 w'))
          case first =>
            obtain ⟨c1, z1⟩ := H2.out.facts
            obtain ⟨A, c, rfl, HR⟩ := H2.out.reads
            cases hz : gZero a.ar.c a.ar.k a.ar.a a.ar.t
            · have HE : Hid (a.b3 = brk a.ar.t a.ft) := by show _ = _; unfold AV.b3; rw [hz]; rfl
              have hg : gEq a.ar.c a.ar.k a.ar.a a.ar.t 0 0 0 0 = false := hz
              go_wp2_with (first | (go_at_call 74; refine (impl_breaks _ _ _ a.ft _ _ rfl (by have := ft_len a; unfold maxLen; omega) HR.out).mono ?_; rintro e w' ⟨rfl, rfl⟩) | (go_at_call 75; refine (impl_clash _ _ _).mono ?_; rintro e w' ⟨rfl, rfl⟩))
              go_meet
              case rel => exact ⟨congrArg Value.bool HE.out.symm, H2⟩
            · have HE : Hid (a.b3 = false) := by show _ = _; unfold AV.b3; rw [hz]; rfl
              have hg : gEq a.ar.c a.ar.k a.ar.a a.ar.t 0 0 0 0 = true := hz
              go_wp2
              go_meet
              case rel => exact ⟨congrArg Value.bool HE.out.symm, H2⟩
          case rest =>
            obtain ⟨rfl, H2b⟩ := hcut
            clear H2
            go_upto_if 58 with fail
            go_cut [3] from 5 (fun v' w' => ∃ u, u = v' ∧ Hid (FS a w a.ft vf u a.n3 w'))
            case first =>
              obtain ⟨c1, z1⟩ := H2b.out.facts
              cases hz : a.b3
              · have HE : Hid (a.n3 = a.n2) := by show _ = _; unfold AV.n3 addN; rw [hz]; rfl
                go_wp2
                go_meet
                case rel => exact ⟨_, rfl, by show FS _ _ _ _ _ _ _; rw [HE.out]; exact H2b.out⟩
              · have HE : Hid (a.n3 = a.n2 ++ [⟨3, a.ar.t, a.f.a⟩]) := by show _ = _; unfold AV.n3 addN; rw [hz]; rfl
                have hzz := H2b.out.room
                have hl : a.n2.length ≤ 1000 := (by have := n2_len a; omega)
                go_wp2_with (at_builtin; refine wp_appendN rfl _ _ rfl _ _ _ rfl rfl H2b.out.1 hzz hl ?_; intro v' w3 hi3 hg3)
                have HN := Lib.hid (H2b.out.app hi3 hg3)
                clear hi3 hg3
                go_meet
                case rel => exact ⟨_, rfl, by show FS _ _ _ _ _ _ _; rw [HE.out]; exact HN.out⟩
            case rest =>
              obtain ⟨v3, rfl, H3⟩ := hcut
              clear H2b
              go_wp2
              go_ret
              exact ⟨_, rfl, H3.out.1, H3.out.2.2.2⟩
set_option maxHeartbeats 2000000 in
theorem spec_l8Findings (a : AV) (w : World) : Calls Try.prog 38 #[.agg #[.int .i64 a.f.d, .int .i64 a.f.l, .int .i64 a.f.a, .int .i64 a.f.b, .int .i64 a.o, .int .i64 a.l, .int .i64 a.t, .int .i64 a.on.c, .int .i64 a.on.k, .int .i64 a.on.a, .int .i64 a.on.t, .int .i64 a.ar.c, .int .i64 a.ar.k, .int .i64 a.ar.a, .int .i64 a.ar.t]] w (RetFinds1 a.n3 w) := by
  go_enter Try.func38, Try.ntmps38
  go_upto_region 1 with (fail)
  have B := Blk.new w 35 #[Value.int .i64 a.f.d, Value.int .i64 a.f.l, Value.int .i64 a.f.a, Value.int .i64 a.f.b, Value.int .i64 a.o, Value.int .i64 a.l, Value.int .i64 a.t, Value.int .i64 a.on.c, Value.int .i64 a.on.k, Value.int .i64 a.on.a, Value.int .i64 a.on.t, Value.int .i64 a.ar.c, Value.int .i64 a.ar.k, Value.int .i64 a.ar.a, Value.int .i64 a.ar.t]
  have hW : Below w.heap.size w (w.alloc (.cells #[Value.int .i64 a.f.d, Value.int .i64 a.f.l, Value.int .i64 a.f.a, Value.int .i64 a.f.b, Value.int .i64 a.o, Value.int .i64 a.l, Value.int .i64 a.t, Value.int .i64 a.on.c, Value.int .i64 a.on.k, Value.int .i64 a.on.a, Value.int .i64 a.on.t, Value.int .i64 a.ar.c, Value.int .i64 a.ar.k, Value.int .i64 a.ar.a, Value.int .i64 a.ar.t] 35)) := (by repeat (first | (with_reducible exact Below.refl _ _) | (with_reducible assumption) | (with_reducible refine balloc ?_ _) | (with_reducible refine bdrew ?_) | (with_reducible refine bdrewN ?_ _) | (with_reducible refine bset ?_ (by first | omega | (simp; done) | (simp; omega)) _) | (with_reducible refine bstep ?_ (by assumption))))
  generalize w.alloc (.cells #[Value.int .i64 a.f.d, Value.int .i64 a.f.l, Value.int .i64 a.f.a, Value.int .i64 a.f.b, Value.int .i64 a.o, Value.int .i64 a.l, Value.int .i64 a.t, Value.int .i64 a.on.c, Value.int .i64 a.on.k, Value.int .i64 a.on.a, Value.int .i64 a.on.t, Value.int .i64 a.ar.c, Value.int .i64 a.ar.k, Value.int .i64 a.ar.a, Value.int .i64 a.ar.t] 35) = W at *
  obtain ⟨c1, z1⟩ := B.facts
  have hzw := hW.size
  go_upto_region 2 with fail
  have H0 : Hid (FS a w [] (.slice none 0 0) (.slice (some ⟨W.heap.size, 0, none⟩) 0 0) [] (W.alloc (.cells #[] 72))) := ⟨(Finds.lit W).base hzw, ⟨0, Ints.nil _ _⟩, B.alloc _, balloc hW _⟩
  clear B c1 z1 hW hzw
  generalize Value.slice (some ⟨W.heap.size, 0, none⟩) 0 0 = v0 at *
  generalize W.alloc (.cells #[] 72) = W1 at *
  go_cut [14] from 4 (fun c w' => c = .bool a.b1 ∧ Hid (FS a w [] (.slice none 0 0) v0 [] w'))
  case first =>
    obtain ⟨c1, z1⟩ := H0.out.facts
    cases hz : (a.o != 0)
    · have HE : Hid (a.b1 = false) := by show _ = _; unfold AV.b1; rw [hz]; rfl
      go_wp2
      go_meet
      case rel => exact ⟨congrArg Value.bool HE.out.symm, H0⟩
    · have HE : Hid (a.b1 = brk a.t a.ft) := by show _ = _; unfold AV.b1; rw [hz]; rfl
      go_wp2_with (go_at_call 69; refine (spec_l8OnField _ _ _ _ _ _).mono ?_; rintro e w1 ⟨rfl, hb1⟩; replace H0 := Lib.hid (H0.out.below hb1); clear c1 z1 hb1; obtain ⟨c1, z1⟩ := H0.out.facts)
      go_meet
      case rel => exact ⟨congrArg Value.bool HE.out.symm, H0⟩
  case rest =>
    obtain ⟨rfl, H0b⟩ := hcut
    clear H0
    go_upto_if 14 with fail
    go_cut [3] from 4 (fun v' w' => ∃ u, u = v' ∧ Hid (FS a w [] (.slice none 0 0) u a.n1 w'))
    case first =>
      obtain ⟨c1, z1⟩ := H0b.out.facts
      cases hz : a.b1
      · have HE : Hid (a.n1 = []) := by show _ = _; unfold AV.n1 addN; rw [hz]; rfl
        go_wp2
        go_meet
        case rel => exact ⟨_, rfl, by show FS _ _ _ _ _ _ _; rw [HE.out]; exact H0b.out⟩
      · have HE : Hid (a.n1 = [] ++ [⟨1, a.t, a.f.a⟩]) := by show _ = _; unfold AV.n1 addN; rw [hz]; rfl
        have hzz := H0b.out.room
        have hl : ([] : List NV).length ≤ 1000 := (by simp)
        go_wp2_with (at_builtin; refine wp_appendN rfl _ _ rfl _ _ _ rfl rfl H0b.out.1 hzz hl ?_; intro v' w3 hi3 hg3)
        have HN := Lib.hid (H0b.out.app hi3 hg3)
        clear hi3 hg3
        go_meet
        case rel => exact ⟨_, rfl, by show FS _ _ _ _ _ _ _; rw [HE.out]; exact HN.out⟩
    case rest =>
      obtain ⟨v1, rfl, H1⟩ := hcut
      clear H0b
      go_upto_region 4 with fail
      go_cut [35] from 4 (fun c w' => c = .bool a.b2 ∧ Hid (FS a w [] (.slice none 0 0) v1 a.n1 w'))
      case first =>
        obtain ⟨c1, z1⟩ := H1.out.facts
        cases hz : gZero a.on.c a.on.k a.on.a a.on.t
        · have HE : Hid (a.b2 = tclash a.on.t a.t) := by show _ = _; unfold AV.b2; rw [hz]; rfl
          go_wp2_with (first | (go_at_call 65; refine (spec_l4None _ _ _ _ _).mono ?_; rintro e w1 ⟨rfl, hb1⟩; replace H1 := Lib.hid (H1.out.below hb1); clear c1 z1 hb1; obtain ⟨c1, z1⟩ := H1.out.facts) | (go_at_call 69; refine (spec_l8OnField _ _ _ _ _ _).mono ?_; rintro e w1 ⟨rfl, hb1⟩; replace H1 := Lib.hid (H1.out.below hb1); clear c1 z1 hb1; obtain ⟨c1, z1⟩ := H1.out.facts) | (go_at_call 70; refine (spec_l2Clash _ _ _).mono ?_; rintro e w' ⟨rfl, rfl⟩))
          go_meet
          case rel => exact ⟨congrArg Value.bool HE.out.symm, H1⟩
        · have HE : Hid (a.b2 = false) := by show _ = _; unfold AV.b2; rw [hz]; rfl
          go_wp2_with (first | (go_at_call 65; refine (spec_l4None _ _ _ _ _).mono ?_; rintro e w1 ⟨rfl, hb1⟩; replace H1 := Lib.hid (H1.out.below hb1); clear c1 z1 hb1; obtain ⟨c1, z1⟩ := H1.out.facts) | (go_at_call 69; refine (spec_l8OnField _ _ _ _ _ _).mono ?_; rintro e w1 ⟨rfl, hb1⟩; replace H1 := Lib.hid (H1.out.below hb1); clear c1 z1 hb1; obtain ⟨c1, z1⟩ := H1.out.facts) | (go_at_call 70; refine (spec_l2Clash _ _ _).mono ?_; rintro e w' ⟨rfl, rfl⟩))
          go_meet
          case rel => exact ⟨congrArg Value.bool HE.out.symm, H1⟩
      case rest =>
        obtain ⟨rfl, H1b⟩ := hcut
        clear H1
        go_upto_if 35 with fail
        go_cut [3] from 4 (fun v' w' => ∃ u, u = v' ∧ Hid (FS a w [] (.slice none 0 0) u a.n2 w'))
        case first =>
          obtain ⟨c1, z1⟩ := H1b.out.facts
          cases hz : a.b2
          · have HE : Hid (a.n2 = a.n1) := by show _ = _; unfold AV.n2 addN; rw [hz]; rfl
            go_wp2
            go_meet
            case rel => exact ⟨_, rfl, by show FS _ _ _ _ _ _ _; rw [HE.out]; exact H1b.out⟩
          · have HE : Hid (a.n2 = a.n1 ++ [⟨2, a.on.t, a.t⟩]) := by show _ = _; unfold AV.n2 addN; rw [hz]; rfl
            have hzz := H1b.out.room
            have hl : a.n1.length ≤ 1000 := (by have := n1_len a; omega)
            go_wp2_with (at_builtin; refine wp_appendN rfl _ _ rfl _ _ _ rfl rfl H1b.out.1 hzz hl ?_; intro v' w3 hi3 hg3)
            have HN := Lib.hid (H1b.out.app hi3 hg3)
            clear hi3 hg3
            go_meet
            case rel => exact ⟨_, rfl, by show FS _ _ _ _ _ _ _; rw [HE.out]; exact HN.out⟩
        case rest =>
          obtain ⟨v2, rfl, H2⟩ := hcut
          clear H1b
          go_upto_region 6 with fail
          go_cut [56] from 4 (fun c w' => c = .bool a.b3 ∧ Hid (FS a w [] (.slice none 0 0) v2 a.n2 w'))
          case first =>
            obtain ⟨c1, z1⟩ := H2.out.facts
            cases hz : gZero a.ar.c a.ar.k a.ar.a a.ar.t
            · have HE : Hid (a.b3 = brk a.ar.t a.ft) := by show _ = _; unfold AV.b3; rw [hz]; rfl
              go_wp2_with (first | (go_at_call 65; refine (spec_l4None _ _ _ _ _).mono ?_; rintro e w1 ⟨rfl, hb1⟩; replace H2 := Lib.hid (H2.out.below hb1); clear c1 z1 hb1; obtain ⟨c1, z1⟩ := H2.out.facts) | (go_at_call 69; refine (spec_l8OnField _ _ _ _ _ _).mono ?_; rintro e w1 ⟨rfl, hb1⟩; replace H2 := Lib.hid (H2.out.below hb1); clear c1 z1 hb1; obtain ⟨c1, z1⟩ := H2.out.facts) | (go_at_call 70; refine (spec_l2Clash _ _ _).mono ?_; rintro e w' ⟨rfl, rfl⟩))
              go_meet
              case rel => exact ⟨congrArg Value.bool HE.out.symm, H2⟩
            · have HE : Hid (a.b3 = false) := by show _ = _; unfold AV.b3; rw [hz]; rfl
              go_wp2_with (first | (go_at_call 65; refine (spec_l4None _ _ _ _ _).mono ?_; rintro e w1 ⟨rfl, hb1⟩; replace H2 := Lib.hid (H2.out.below hb1); clear c1 z1 hb1; obtain ⟨c1, z1⟩ := H2.out.facts) | (go_at_call 69; refine (spec_l8OnField _ _ _ _ _ _).mono ?_; rintro e w1 ⟨rfl, hb1⟩; replace H2 := Lib.hid (H2.out.below hb1); clear c1 z1 hb1; obtain ⟨c1, z1⟩ := H2.out.facts) | (go_at_call 70; refine (spec_l2Clash _ _ _).mono ?_; rintro e w' ⟨rfl, rfl⟩))
              go_meet
              case rel => exact ⟨congrArg Value.bool HE.out.symm, H2⟩
          case rest =>
            obtain ⟨rfl, H2b⟩ := hcut
            clear H2
            go_upto_if 56 with fail
            go_cut [3] from 4 (fun v' w' => ∃ u, u = v' ∧ Hid (FS a w [] (.slice none 0 0) u a.n3 w'))
            case first =>
              obtain ⟨c1, z1⟩ := H2b.out.facts
              cases hz : a.b3
              · have HE : Hid (a.n3 = a.n2) := by show _ = _; unfold AV.n3 addN; rw [hz]; rfl
                go_wp2
                go_meet
                case rel => exact ⟨_, rfl, by show FS _ _ _ _ _ _ _; rw [HE.out]; exact H2b.out⟩
              · have HE : Hid (a.n3 = a.n2 ++ [⟨3, a.ar.t, a.f.a⟩]) := by show _ = _; unfold AV.n3 addN; rw [hz]; rfl
                have hzz := H2b.out.room
                have hl : a.n2.length ≤ 1000 := (by have := n2_len a; omega)
                go_wp2_with (at_builtin; refine wp_appendN rfl _ _ rfl _ _ _ rfl rfl H2b.out.1 hzz hl ?_; intro v' w3 hi3 hg3)
                have HN := Lib.hid (H2b.out.app hi3 hg3)
                clear hi3 hg3
                go_meet
                case rel => exact ⟨_, rfl, by show FS _ _ _ _ _ _ _; rw [HE.out]; exact HN.out⟩
            case rest =>
              obtain ⟨v3, rfl, H3⟩ := hcut
              clear H2b
              go_wp2
              go_ret
              exact ⟨_, rfl, H3.out.1, H3.out.2.2.2⟩
end Go.Proofs.Ytkmioioknboohaa
