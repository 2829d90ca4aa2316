/- The findings that are not lenient. Conditions: as each theorem says. -/
import Derived.Test.YtkmioioknboohaaRows
import Derived.Test.YtkmioioknboohaaFslice
import Derived.Maps.AppendAt
namespace Go.Proofs.Ytkmioioknboohaa
set_option linter.unusedSimpArgs false
set_option linter.unusedVariables false
open Go.ChangeShapes Go.WideShapes Go.ChangeAt Go.RowKit

theorem wp_appendN3 {ops : Array Oper} {rest : List Oper} {o : Oper} {a : Act} {Q : Exit → Act → World → Prop} {w0 : World} {p u l : Int} (hgd : o.guard = none) (s x : Operand)
    (ho : o.op = .call { callee := .builtin .append, args := #[s, x], argTypes := #[45, 45] }) (v : Value) (xs : List NV) (B : Nat) (hs : a.eval s = v)
    (hx : a.eval x = .slice (some ⟨w0.heap.size, 0, none⟩) 1 1) (hv : Finds w0 B v xs) (hB : B ≤ w0.heap.size) (hl : xs.length ≤ 1000)
    (h : ∀ v' w', Finds w' B v' (xs ++ [⟨p, u, l⟩]) → w0.grownBy w' v.ownBlock → (v'.ownBlock = v.ownBlock ∨ v'.ownBlock = some (w0.heap.size + 1)) → wpList Try.prog ops Q rest (a.put o.dst v') w') :
    wpList Try.prog ops Q (o :: rest) a (w0.alloc (.cells #[.int .i64 p, .int .i64 u, .int .i64 l] 72)) := by
  obtain ⟨i0, hi0, hz0, hz1, hz2⟩ := info_parts find_info
  have hv' : (w0.alloc (.cells #[.int .i64 p, .int .i64 u, .int .i64 l] 72)).ownsRow B 72 3 v xs.length (flatN xs) := World.ownsRow.alloc hv _
  refine wpList_append_own_at _ hgd s x _ ho B 72 i0 _ 3 24 Try.underlying45 hi0 hz0 hz1 hz2 rfl (by decide) v xs.length _ hs hv' ⟨w0.heap.size, 0, none⟩ 1 1 [.int .i64 p, .int .i64 u, .int .i64 l] hx rfl ?_ ?_ ?_ ?_ ?_ ?_
  · intro j u hu
    match j, hu with
    | 0, hu =>
      simp at hu
      subst hu
      simp [Addr.add]
    | 1, hu =>
      simp at hu
      subst hu
      simp [Addr.add]
    | 2, hu =>
      simp at hu
      subst hu
      simp [Addr.add]
  · simp [Value.oneCell']
  · simp only [maxLen]; omega
  · omega
  · simp; omega
  · intro v' w' h1 h2 _ h4
    refine h v' w' ?_ ⟨h2.os, h2.tape, h2.output, by have := h2.size; simp at this; omega, fun b hb hne => (h2.block b (by simp; omega) hne).trans (Below.heap_alloc w0 _ b hb)⟩ (by simpa using h4)
    unfold Finds
    have e : flatN (xs ++ [⟨p, u, l⟩]) = flatN xs ++ [.int .i64 p, .int .i64 u, .int .i64 l] := by simp [flatN, NV.row]
    rw [e]
    simpa using h1
theorem apartS {a b : Option Nat} (h : a = none ∨ a ≠ b) : b = none ∨ b ≠ a := by
  cases b with
  | none => exact .inl rfl
  | some k =>
    refine .inr fun e => ?_
    rcases h with h | h
    · rw [h] at e; cases e
    · exact h e.symm
def AV.lenF (a : AV) (x : NV) : Bool := x.p != 1 || a.o != 7
def AV.lenTo (a : AV) (k : Nat) : List NV := (a.n3.take k).filter a.lenF
theorem lenTo_succ (a : AV) (k : Nat) (h : k < a.n3.length) : a.lenTo (k + 1) = if a.lenF (a.n3.getD k .zero) then a.lenTo k ++ [a.n3.getD k .zero] else a.lenTo k := by
  unfold AV.lenTo
  have e : a.n3.getD k .zero = a.n3[k] := by simp [List.getD_eq_getElem?_getD, h]
  rw [List.take_succ_eq_append_getElem h, List.filter_append, e]
  cases hh : a.lenF a.n3[k] <;> simp [hh]
theorem lenTo_len (a : AV) (k : Nat) : (a.lenTo k).length ≤ 3 := by
  have := n3_len a
  unfold AV.lenTo
  refine Nat.le_trans (List.length_filter_le _ _) ?_
  simp
  omega
theorem lenTo_all (a : AV) : a.lenTo a.n3.length = a.n3.filter a.lenF := by unfold AV.lenTo; rw [List.take_length]
def AV.leV (a : AV) : List NV := if a.ok then a.n3.filter a.lenF else []
theorem leV_len (a : AV) : a.leV.length ≤ 1048576 := by
  unfold AV.leV
  split
  · have := lenTo_len a a.n3.length
    rw [lenTo_all] at this
    omega
  · simp
/-- The list that is laid, the list that is read, the boxed arms. -/
def LF (a : AV) (w : World) (vl v : Value) (xs : List NV) (W : World) : Prop := Finds W w.heap.size v xs ∧ (∃ Bl, Finds W Bl vl a.n3) ∧ (v.ownBlock = none ∨ v.ownBlock ≠ vl.ownBlock) ∧ Blk W w.heap.size 35 #[Value.int .i64 a.f.d, Value.int .i64 a.f.l, Value.int .i64 a.f.a, Value.int .i64 a.f.b, Value.int .i64 a.o, Value.int .i64 a.l, Value.int .i64 a.t, Value.int .i64 a.on.c, Value.int .i64 a.on.k, Value.int .i64 a.on.a, Value.int .i64 a.on.t, Value.int .i64 a.ar.c, Value.int .i64 a.ar.k, Value.int .i64 a.ar.a, Value.int .i64 a.ar.t] ∧ Below w.heap.size w W
section
variable {a : AV} {w W W' : World} {vl v v' : Value} {xs : List NV} {y : NV}
theorem LF.below (h : LF a w vl v xs W) (hb : Below W.heap.size W W') : LF a w vl v xs W' := ⟨h.1.below hb, h.2.1.imp fun _ hi => hi.below hb, h.2.2.1, h.2.2.2.1.below hb, bstep h.2.2.2.2 hb⟩
theorem LF.app (h : LF a w vl v xs W) (hi : Finds W' w.heap.size v' (xs ++ [y])) (hg : W.grownBy W' v.ownBlock) (hat : v'.ownBlock = v.ownBlock ∨ v'.ownBlock = some (W.heap.size + 1)) : LF a w vl v' (xs ++ [y]) W' := by
  obtain ⟨Bl, hl⟩ := h.2.1
  refine ⟨hi, ⟨Bl, hl.kept hg (apartS h.2.2.1)⟩, ?_, h.2.2.2.1.grown hg (own_blk_ne h.1 h.2.2.2.1 (by decide)), grown_below h.2.2.2.2 hg fun q hq => (h.1.lt q hq).1⟩
  rcases hat with e | e
  · rw [e]; exact h.2.2.1
  · rw [e]
    refine .inr fun e' => ?_
    have := (hl.lt _ e'.symm).2
    omega
theorem LF.facts (h : LF a w vl v xs W) : (∀ i, W.cell? ⟨w.heap.size, i, none⟩ = (#[Value.int .i64 a.f.d, Value.int .i64 a.f.l, Value.int .i64 a.f.a, Value.int .i64 a.f.b, Value.int .i64 a.o, Value.int .i64 a.l, Value.int .i64 a.t, Value.int .i64 a.on.c, Value.int .i64 a.on.k, Value.int .i64 a.on.a, Value.int .i64 a.on.t, Value.int .i64 a.ar.c, Value.int .i64 a.ar.k, Value.int .i64 a.ar.a, Value.int .i64 a.ar.t])[i]?) ∧ w.heap.size < W.heap.size := h.2.2.2.1.facts
theorem LF.start {w1 : World} (h : FS a w [] (.slice none 0 0) v xs w1) (hi : Finds W w1.heap.size vl a.n3) (hb : Below w1.heap.size w1 W) : LF a w vl v xs W :=
  ⟨h.1.below hb, ⟨_, hi⟩, own_apart h.1 hi (Nat.le_refl _), h.2.2.1.below hb, bstep h.2.2.2 hb⟩
end
set_option maxHeartbeats 1000000 in
theorem spec_LenientFindings (a : AV) (w : World) : Calls Try.prog 20 #[.agg #[.int .i64 a.f.d, .int .i64 a.f.l, .int .i64 a.f.a, .int .i64 a.f.b, .int .i64 a.o, .int .i64 a.l, .int .i64 a.t, .int .i64 a.on.c, .int .i64 a.on.k, .int .i64 a.on.a, .int .i64 a.on.t, .int .i64 a.ar.c, .int .i64 a.ar.k, .int .i64 a.ar.a, .int .i64 a.ar.t]] w (RetFinds a.ok a.leV w) := by
  unfold AV.leV
  cases h : a.ok
  all_goals
    go_enter Try.func20, Try.ntmps20
    go_upto_region 1 with (fail)
    have B := Blk.new w 35 #[Value.int .i64 a.f.d, Value.int .i64 a.f.l, Value.int .i64 a.f.a, Value.int .i64 a.f.b, Value.int .i64 a.o, Value.int .i64 a.l, Value.int .i64 a.t, Value.int .i64 a.on.c, Value.int .i64 a.on.k, Value.int .i64 a.on.a, Value.int .i64 a.on.t, Value.int .i64 a.ar.c, Value.int .i64 a.ar.k, Value.int .i64 a.ar.a, Value.int .i64 a.ar.t]
    have hW : Below w.heap.size w (w.alloc (.cells #[Value.int .i64 a.f.d, Value.int .i64 a.f.l, Value.int .i64 a.f.a, Value.int .i64 a.f.b, Value.int .i64 a.o, Value.int .i64 a.l, Value.int .i64 a.t, Value.int .i64 a.on.c, Value.int .i64 a.on.k, Value.int .i64 a.on.a, Value.int .i64 a.on.t, Value.int .i64 a.ar.c, Value.int .i64 a.ar.k, Value.int .i64 a.ar.a, Value.int .i64 a.ar.t] 35)) := (by repeat (first | (with_reducible exact Below.refl _ _) | (with_reducible assumption) | (with_reducible refine balloc ?_ _) | (with_reducible refine bdrew ?_) | (with_reducible refine bdrewN ?_ _) | (with_reducible refine bset ?_ (by first | omega | (simp; done) | (simp; omega)) _) | (with_reducible refine bstep ?_ (by assumption))))
    generalize w.alloc (.cells #[Value.int .i64 a.f.d, Value.int .i64 a.f.l, Value.int .i64 a.f.a, Value.int .i64 a.f.b, Value.int .i64 a.o, Value.int .i64 a.l, Value.int .i64 a.t, Value.int .i64 a.on.c, Value.int .i64 a.on.k, Value.int .i64 a.on.a, Value.int .i64 a.on.t, Value.int .i64 a.ar.c, Value.int .i64 a.ar.k, Value.int .i64 a.ar.a, Value.int .i64 a.ar.t] 35) = W at *
    obtain ⟨c1, z1⟩ := B.facts
    have hzw := hW.size
    go_upto_region 2 with fail
    have H : Hid (FS a w [] (.slice none 0 0) (.slice (some ⟨W.heap.size, 0, none⟩) 0 0) [] (W.alloc (.cells #[] 72))) := ⟨(Finds.lit W).base hzw, ⟨0, Ints.nil _ _⟩, B.alloc _, balloc hW _⟩
    clear B c1 z1 hW hzw
    generalize Value.slice (some ⟨W.heap.size, 0, none⟩) 0 0 = v0 at *
    generalize W.alloc (.cells #[] 72) = W1 at *
    obtain ⟨c1, z1⟩ := H.out.facts
  · go_wp2_with (first | ((with_reducible refine wp_ldA' ?_ H.out.2.2.1 ?_); (focus (refine ⟨rfl, ⟨_, rfl, ?_⟩, rfl⟩; simp [go_sem]; done))) | (go_at_call 37; refine (spec_l5Good a _).mono ?_; rintro e w1 ⟨rfl, hb1⟩; replace H := Lib.hid (H.out.below hb1); clear c1 z1 hb1; obtain ⟨c1, z1⟩ := H.out.facts))
    go_ret2
    exact ⟨_, rfl, H.out.1, H.out.2.2.2⟩
  · go_upto_region 5 with (first | ((with_reducible refine wp_ldA' ?_ H.out.2.2.1 ?_); (focus (refine ⟨rfl, ⟨_, rfl, ?_⟩, rfl⟩; simp [go_sem]; done))) | (go_at_call 37; refine (spec_l5Good a _).mono ?_; rintro e w1 ⟨rfl, hb1⟩; replace H := Lib.hid (H.out.below hb1); clear c1 z1 hb1; obtain ⟨c1, z1⟩ := H.out.facts) | (go_at_call 38; refine (spec_l8Findings a _).mono ?_; rintro e w2 ⟨vl, rfl, hi, hb2⟩))
    have H0 := Lib.hid (LF.start H.out hi hb2)
    obtain ⟨AL, cL, rfl, ha⟩ := hi.shape
    have hn3 := n3_len a
    clear H c1 z1 hb2 ha hi
    go_wp2
    go_loopw [4, 6] (fun v i wr => ∃ k : Nat, k ≤ a.n3.length ∧ i = .int .i64 k ∧ Hid (LF a w (.slice AL a.n3.length cL) v (a.lenTo k) wr)) (fun _ i _ => a.n3.length - (intOf i).toNat)
    case atStart => exact ⟨0, Nat.zero_le _, rfl, H0⟩
    case round =>
      obtain ⟨k, hk, rfl, H⟩ := hrel
      clear H0
      by_cases hlt : k < a.n3.length
      · have HS := Lib.hid (lenTo_succ a k hlt)
        have hll := lenTo_len a k
        obtain ⟨Bl, hfl⟩ := H.out.2.1
        obtain ⟨A2, c2, hA2, hs⟩ := hfl.shape
        obtain ⟨g, rfl, _, hg, ⟨d0, d1, d2⟩, _⟩ := hs k hlt
        have hA3 : AL = some (⟨g, 0, none⟩ : Addr) := by injection hA2
        clear hA2 hs hfl
        subst hA3
        obtain ⟨c1, z1⟩ := H.out.facts
        generalize a.n3.getD k .zero = x at *
        obtain ⟨p, u, l⟩ := x
        simp only at d0 d1 d2
        have hzz := H.out.2.2.2.2.size
        cases h1 : (p != 1)
        · cases h7 : (a.o != 7)
          · have HE : Hid (a.lenTo (k + 1) = a.lenTo k) := by rw [HS.out]; unfold AV.lenF; rw [h1, h7]; rfl
            go_wp2
            go_roundw
            case rel => exact ⟨k + 1, by omega, by go_num, by rw [HE.out]; exact H⟩
            case measure => simp [intOf]; omega
          · have HE : Hid (a.lenTo (k + 1) = a.lenTo k ++ [⟨p, u, l⟩]) := by rw [HS.out]; unfold AV.lenF; rw [h1, h7]; rfl
            go_wp2_with (at_builtin; refine wp_appendN3 rfl _ _ rfl _ _ _ rfl rfl H.out.1 hzz (by omega) ?_; intro v' w3 hi3 hg3 hat3)
            have HN := Lib.hid (H.out.app hi3 hg3 hat3)
            clear hi3 hg3 hat3
            go_roundw
            case rel => exact ⟨k + 1, by omega, by go_num, by rw [HE.out]; exact HN⟩
            case measure => simp [intOf]; omega
        · have HE : Hid (a.lenTo (k + 1) = a.lenTo k ++ [⟨p, u, l⟩]) := by rw [HS.out]; unfold AV.lenF; rw [h1]; rfl
          go_wp2_with (at_builtin; refine wp_appendN3 rfl _ _ rfl _ _ _ rfl rfl H.out.1 hzz (by omega) ?_; intro v' w3 hi3 hg3 hat3)
          have HN := Lib.hid (H.out.app hi3 hg3 hat3)
          clear hi3 hg3 hat3
          go_roundw
          case rel => exact ⟨k + 1, by omega, by go_num, by rw [HE.out]; exact HN⟩
          case measure => simp [intOf]; omega
      · obtain rfl : k = a.n3.length := by omega
        have HA := Lib.hid (lenTo_all a)
        go_wp2
        go_ret2
        exact ⟨_, rfl, by show Finds _ _ _ (a.n3.filter a.lenF); rw [← HA.out]; exact H.out.1, H.out.2.2.2.2⟩
set_option maxHeartbeats 1000000 in
theorem impl_LenientFindings (a : AV) (w : World) : Calls Try.prog 21 #[.agg #[.int .i64 a.f.d, .int .i64 a.f.l, .int .i64 a.f.a, .int .i64 a.f.b, .int .i64 a.o, .int .i64 a.l, .int .i64 a.t, .int .i64 a.on.c, .int .i64 a.on.k, .int .i64 a.on.a, .int .i64 a.on.t, .int .i64 a.ar.c, .int .i64 a.ar.k, .int .i64 a.ar.a, .int .i64 a.ar.t]] w (RetFinds a.ok a.leV w) := by
  unfold AV.leV
  cases h : a.ok
  · go_enter Try.func21, Try.ntmps21
    go_upto_region 1 with (fail)
    have B := Blk.new w 35 #[Value.int .i64 a.f.d, Value.int .i64 a.f.l, Value.int .i64 a.f.a, Value.int .i64 a.f.b, Value.int .i64 a.o, Value.int .i64 a.l, Value.int .i64 a.t, Value.int .i64 a.on.c, Value.int .i64 a.on.k, Value.int .i64 a.on.a, Value.int .i64 a.on.t, Value.int .i64 a.ar.c, Value.int .i64 a.ar.k, Value.int .i64 a.ar.a, Value.int .i64 a.ar.t]
    have hW : Below w.heap.size w (w.alloc (.cells #[Value.int .i64 a.f.d, Value.int .i64 a.f.l, Value.int .i64 a.f.a, Value.int .i64 a.f.b, Value.int .i64 a.o, Value.int .i64 a.l, Value.int .i64 a.t, Value.int .i64 a.on.c, Value.int .i64 a.on.k, Value.int .i64 a.on.a, Value.int .i64 a.on.t, Value.int .i64 a.ar.c, Value.int .i64 a.ar.k, Value.int .i64 a.ar.a, Value.int .i64 a.ar.t] 35)) := (by repeat (first | (with_reducible exact Below.refl _ _) | (with_reducible assumption) | (with_reducible refine balloc ?_ _) | (with_reducible refine bdrew ?_) | (with_reducible refine bdrewN ?_ _) | (with_reducible refine bset ?_ (by first | omega | (simp; done) | (simp; omega)) _) | (with_reducible refine bstep ?_ (by assumption))))
    generalize w.alloc (.cells #[Value.int .i64 a.f.d, Value.int .i64 a.f.l, Value.int .i64 a.f.a, Value.int .i64 a.f.b, Value.int .i64 a.o, Value.int .i64 a.l, Value.int .i64 a.t, Value.int .i64 a.on.c, Value.int .i64 a.on.k, Value.int .i64 a.on.a, Value.int .i64 a.on.t, Value.int .i64 a.ar.c, Value.int .i64 a.ar.k, Value.int .i64 a.ar.a, Value.int .i64 a.ar.t] 35) = W at *
    obtain ⟨c1, z1⟩ := B.facts
    go_wp2_with (first | ((with_reducible refine wp_ldA' ?_ B ?_); (focus (refine ⟨rfl, ⟨_, rfl, ?_⟩, rfl⟩; simp [go_sem]; done))) | (go_at_call 41; refine (impl_IsValidArms a _).mono ?_; rintro e w1 ⟨rfl, hb1⟩; clear c1 z1; replace B := B.below hb1; obtain ⟨c1, z1⟩ := B.facts; replace hW := bstep hW hb1; clear hb1))
    go_ret2
    exact ⟨_, rfl, Finds.nil _ _, hW⟩
  · go_enter Try.func21, Try.ntmps21
    go_upto_region 1 with (fail)
    have B := Blk.new w 35 #[Value.int .i64 a.f.d, Value.int .i64 a.f.l, Value.int .i64 a.f.a, Value.int .i64 a.f.b, Value.int .i64 a.o, Value.int .i64 a.l, Value.int .i64 a.t, Value.int .i64 a.on.c, Value.int .i64 a.on.k, Value.int .i64 a.on.a, Value.int .i64 a.on.t, Value.int .i64 a.ar.c, Value.int .i64 a.ar.k, Value.int .i64 a.ar.a, Value.int .i64 a.ar.t]
    have hW : Below w.heap.size w (w.alloc (.cells #[Value.int .i64 a.f.d, Value.int .i64 a.f.l, Value.int .i64 a.f.a, Value.int .i64 a.f.b, Value.int .i64 a.o, Value.int .i64 a.l, Value.int .i64 a.t, Value.int .i64 a.on.c, Value.int .i64 a.on.k, Value.int .i64 a.on.a, Value.int .i64 a.on.t, Value.int .i64 a.ar.c, Value.int .i64 a.ar.k, Value.int .i64 a.ar.a, Value.int .i64 a.ar.t] 35)) := (by repeat (first | (with_reducible exact Below.refl _ _) | (with_reducible assumption) | (with_reducible refine balloc ?_ _) | (with_reducible refine bdrew ?_) | (with_reducible refine bdrewN ?_ _) | (with_reducible refine bset ?_ (by first | omega | (simp; done) | (simp; omega)) _) | (with_reducible refine bstep ?_ (by assumption))))
    generalize w.alloc (.cells #[Value.int .i64 a.f.d, Value.int .i64 a.f.l, Value.int .i64 a.f.a, Value.int .i64 a.f.b, Value.int .i64 a.o, Value.int .i64 a.l, Value.int .i64 a.t, Value.int .i64 a.on.c, Value.int .i64 a.on.k, Value.int .i64 a.on.a, Value.int .i64 a.on.t, Value.int .i64 a.ar.c, Value.int .i64 a.ar.k, Value.int .i64 a.ar.a, Value.int .i64 a.ar.t] 35) = W at *
    obtain ⟨c1, z1⟩ := B.facts
    go_upto_region 4 with (first | ((with_reducible refine wp_ldA' ?_ B ?_); (focus (refine ⟨rfl, ⟨_, rfl, ?_⟩, rfl⟩; simp [go_sem]; done))) | (go_at_call 41; refine (impl_IsValidArms a _).mono ?_; rintro e w1 ⟨rfl, hb1⟩; clear c1 z1; replace B := B.below hb1; obtain ⟨c1, z1⟩ := B.facts; replace hW := bstep hW hb1; clear hb1))
    have hzw := hW.size
    have H : Hid (FS a w [] (.slice none 0 0) (.slice (some ⟨w1.heap.size, 0, none⟩) 0 0) [] (w1.alloc (.cells #[] 72))) := ⟨(Finds.lit w1).base hzw, ⟨0, Ints.nil _ _⟩, B.alloc _, balloc hW _⟩
    clear B c1 z1 hW hzw
    generalize Value.slice (some ⟨w1.heap.size, 0, none⟩) 0 0 = v0 at *
    generalize w1.alloc (.cells #[] 72) = W1 at *
    have HB := H.out.2.2.1
    go_wp2_with ((with_reducible refine wp_ldA' ?_ HB ?_); (focus (refine ⟨rfl, ⟨_, rfl, ?_⟩, rfl⟩; simp [go_sem]; done)))
    refine (impl_Arms_findings a _).mono ?_
    rintro e w2 ⟨vl, rfl, hi, hb2⟩
    obtain ⟨AL, cL, rfl, ha⟩ := hi.shape
    have H0 := Lib.hid (LF.start H.out hi hb2)
    have hn3 := n3_len a
    clear H hb2 ha hi HB
    go_wp2
    go_loopw [4, 14] (fun v i wr => ∃ k : Nat, k ≤ a.n3.length ∧ i = .int .i64 k ∧ Hid (LF a w (.slice AL a.n3.length cL) v (a.lenTo k) wr)) (fun _ i _ => a.n3.length - (intOf i).toNat)
    case atStart => exact ⟨0, Nat.zero_le _, rfl, H0⟩
    case round =>
      obtain ⟨k, hk, rfl, H⟩ := hrel
      clear H0
      by_cases hlt : k < a.n3.length
      · have HS := Lib.hid (lenTo_succ a k hlt)
        have hll := lenTo_len a k
        obtain ⟨Bl, hfl⟩ := H.out.2.1
        obtain ⟨A2, c2, hA2, hs⟩ := hfl.shape
        obtain ⟨g, rfl, _, hg, ⟨d0, d1, d2⟩, _⟩ := hs k hlt
        have hA3 : AL = some (⟨g, 0, none⟩ : Addr) := by injection hA2
        clear hA2 hs hfl
        subst hA3
        obtain ⟨c1, z1⟩ := H.out.facts
        generalize a.n3.getD k .zero = x at *
        obtain ⟨p, u, l⟩ := x
        simp only at d0 d1 d2
        go_upto_region 7 with fail
        have HX := Lib.hid (H.out.below (balloc (Below.refl _ _) (.cells #[.int .i64 p, .int .i64 u, .int .i64 l] 72)))
        have BX := Blk.new wr 72 #[.int .i64 p, .int .i64 u, .int .i64 l]
        clear c1 z1 d0 d1 d2 H
        generalize wr.alloc (.cells #[.int .i64 p, .int .i64 u, .int .i64 l] 72) = W2 at *
        generalize wr.heap.size = q at *
        obtain ⟨c1, z1⟩ := HX.out.facts
        obtain ⟨d1, _⟩ := BX.facts
        have HZZ : Hid (w.heap.size ≤ W2.heap.size) := HX.out.2.2.2.2.size
        cases h7 : (a.o != 7)
        · cases h1 : (p != 1)
          · have HE : Hid (a.lenTo (k + 1) = a.lenTo k) := by rw [HS.out]; unfold AV.lenF; rw [h1, h7]; rfl
            go_wp2
            go_roundw
            case rel => exact ⟨k + 1, by omega, by go_num, by rw [HE.out]; exact HX⟩
            case measure => simp [intOf]; omega
          · have HE : Hid (a.lenTo (k + 1) = a.lenTo k ++ [⟨p, u, l⟩]) := by rw [HS.out]; unfold AV.lenF; rw [h1]; rfl
            go_wp2_with (at_builtin; refine wp_appendN3 rfl _ _ rfl _ _ _ rfl rfl HX.out.1 HZZ.out (by omega) ?_; intro v' w3 hi3 hg3 hat3)
            have HN := Lib.hid (HX.out.app hi3 hg3 hat3)
            clear hi3 hg3 hat3
            go_roundw
            case rel => exact ⟨k + 1, by omega, by go_num, by rw [HE.out]; exact HN⟩
            case measure => simp [intOf]; omega
        · have HE : Hid (a.lenTo (k + 1) = a.lenTo k ++ [⟨p, u, l⟩]) := by show _ = _; rw [HS.out]; unfold AV.lenF; rw [h7]; simp
          go_wp2_with (at_builtin; refine wp_appendN3 rfl _ _ rfl _ _ _ rfl rfl HX.out.1 HZZ.out (by omega) ?_; intro v' w3 hi3 hg3 hat3)
          have HN := Lib.hid (HX.out.app hi3 hg3 hat3)
          clear hi3 hg3 hat3
          go_roundw
          case rel => exact ⟨k + 1, by omega, by go_num, by rw [HE.out]; exact HN⟩
          case measure => simp [intOf]; omega
      · obtain rfl : k = a.n3.length := by omega
        have HA := Lib.hid (lenTo_all a)
        go_wp2
        go_ret2
        exact ⟨_, rfl, by show Finds _ _ _ (a.n3.filter a.lenF); rw [← HA.out]; exact H.out.1, H.out.2.2.2.2⟩
end Go.Proofs.Ytkmioioknboohaa
