/- Sketches: the program's test. Conditions: as each theorem says. -/
import Derived.Test.YtonkblhajbphmaaRows
import Derived.Test.YtonkblhajbphmaaSkG
namespace Go.Proofs.Ytonkblhajbphmaa
set_option linter.unusedSimpArgs false
set_option linter.unusedVariables false
open Go.ChangeShapes Go.WideShapes Go.ChangeAt Go.RowKit

/-- 'out = append(out, y)' on records of the call's own. -/
theorem wp_appendR {α : Type} {f : α → List Value} {n bts : Nat} {ts e : TypeId} {z : Value} (hf : ∀ x, (f x).length = n) (h1 : ∀ x, ∀ u ∈ f x, u.oneCell' = true) (hn : 0 < n) (hu : Try.prog.underlying ts = some (.slice e))
    (hi : (Try.prog.info? e).map (fun i => (i.zero, i.size, i.bytes)) = some (some z, n, bts)) (hz : z.cells.size = n) (hbts : bts ≤ 1000)
    {ops : Array Oper} {rest : List Oper} {o : Oper} {a : Act} {Q : Exit → Act → World → Prop} {w0 : World} (hgd : o.guard = none) (s x : Operand)
    (ho : o.op = .call { callee := .builtin .append, args := #[s, x], argTypes := #[ts, ts] }) (v : Value) (xs : List α) (y : α) (B : Nat) (hs : a.eval s = v)
    (hx : a.eval x = .slice (some ⟨w0.heap.size, 0, none⟩) 1 1) (hv : Recs e n f w0 B v xs) (hB : B ≤ w0.heap.size) (hl : xs.length ≤ 1048576)
    (h : ∀ v' w', Recs e n f w' B v' (xs ++ [y]) → w0.grownBy w' v.ownBlock → wpList Try.prog ops Q rest (a.put o.dst v') w') :
    wpList Try.prog ops Q (o :: rest) a (w0.alloc (.cells (f y).toArray e)) := by
  obtain ⟨i0, hi0, hz0, hz1, hz2⟩ := info_parts hi
  have hv' : (w0.alloc (.cells (f y).toArray e)).ownsRow B e n v xs.length (flatR f xs) := World.ownsRow.alloc hv _
  have hlb : (xs.length + 1) * bts ≤ 140737488355328 := Nat.le_trans (Nat.mul_le_mul (Nat.succ_le_succ hl) hbts) (by decide)
  refine wpList_append_own _ hgd s x _ ho B e i0 _ n bts hu hi0 hz0 hz1 hz2 hz hn v xs.length _ hs hv' ⟨w0.heap.size, 0, none⟩ 1 1 (f y) hx (by rw [hf, Nat.one_mul]) ?_ (h1 y) ?_ hlb ?_ ?_
  · intro j u hu
    rw [Addr.add_mid, Nat.zero_add, (Blk.new w0 e (f y).toArray).cell]
    simpa using hu
  · simp only [maxLen]; omega
  · simp; omega
  · intro v' w' g1 g2 _
    refine h v' w' ?_ ⟨g2.os, g2.tape, g2.output, by have := g2.size; simp at this; omega, fun b hb hne => (g2.block b (by simp; omega) hne).trans (Below.heap_alloc w0 _ b hb)⟩
    unfold Recs
    rw [flatR_app]
    have e1 : flatR f [y] = f y := by simp [flatR]
    rw [e1]
    simpa using g1
/-! ### pointers to the tinctures behind the field -/
def ptrRow (g : Nat) (k : Nat) : List Value := [.pointer (some ⟨g, k, none⟩)]
def Ptrs (g : Nat) (w : World) (B : Nat) (v : Value) (ks : List Nat) : Prop := Recs 77 1 (ptrRow g) w B v ks
theorem Ptrs.below {g : Nat} {w w' : World} {B : Nat} {v : Value} {ks : List Nat} (h : Ptrs g w B v ks) (hb : Below w.heap.size w w') : Ptrs g w' B v ks := Recs.below h hb
theorem ptr_one {g : Nat} : ∀ k, ∀ u ∈ ptrRow g k, u.oneCell' = true := fun k u hu => by
  simp [ptrRow] at hu
  subst hu
  rfl
theorem ptr_info : (Try.prog.info? 77).map (fun i => (i.zero, i.size, i.bytes)) = some (some (.pointer none), 1, 8) := by kernel_rfl
theorem wp_appendP {g : Nat} {ops : Array Oper} {rest : List Oper} {o : Oper} {a : Act} {Q : Exit → Act → World → Prop} {w0 : World} {k : Nat} (hgd : o.guard = none) (s x : Operand)
    (ho : o.op = .call { callee := .builtin .append, args := #[s, x], argTypes := #[75, 75] }) (v : Value) (xs : List Nat) (B : Nat) (hs : a.eval s = v)
    (hx : a.eval x = .slice (some ⟨w0.heap.size, 0, none⟩) 1 1) (hv : Ptrs g w0 B v xs) (hB : B ≤ w0.heap.size) (hl : xs.length ≤ 1048576)
    (h : ∀ v' w', Ptrs g w' B v' (xs ++ [k]) → w0.grownBy w' v.ownBlock → wpList Try.prog ops Q rest (a.put o.dst v') w') :
    wpList Try.prog ops Q (o :: rest) a (w0.alloc (.cells #[.pointer (some ⟨g, k, none⟩)] 77)) :=
  wp_appendR (f := ptrRow g) (n := 1) (z := .pointer none) (bts := 8) (fun _ => rfl) ptr_one (by decide) Try.underlying75 ptr_info rfl (by decide) hgd s x ho v xs k B hs hx hv hB hl h
def PS (g : Nat) (w W : World) (v : Value) (ks : List Nat) : Prop := Ptrs g W w.heap.size v ks ∧ Below w.heap.size w W
theorem PS.app {g : Nat} {w W W' : World} {v v' : Value} {ks : List Nat} {k : Nat} (h : PS g w W v ks) (hi : Recs 77 1 (ptrRow g) W' w.heap.size v' (ks ++ [k])) (hg : W.grownBy W' v.ownBlock) : PS g w W' v' (ks ++ [k]) :=
  ⟨hi, grown_below h.2 hg fun q hq => (h.1.lt q hq).1⟩
/-- The first cells of a block are arms. -/
def ArmsAt (a : AV) (g : Nat) (w : World) : Prop := g < w.heap.size ∧ ∀ i, i < 15 → w.cell? ⟨g, i, none⟩ = (#[Value.int .i64 a.f.d, Value.int .i64 a.f.l, Value.int .i64 a.f.a, Value.int .i64 a.f.b, Value.int .i64 a.o, Value.int .i64 a.l, Value.int .i64 a.t, Value.int .i64 a.on.c, Value.int .i64 a.on.k, Value.int .i64 a.on.a, Value.int .i64 a.on.t, Value.int .i64 a.ar.c, Value.int .i64 a.ar.k, Value.int .i64 a.ar.a, Value.int .i64 a.ar.t] : Array Value)[i]?
theorem ArmsAt.below {a : AV} {g : Nat} {w w' : World} (h : ArmsAt a g w) (hb : Below w.heap.size w w') : ArmsAt a g w' := ⟨Nat.lt_of_lt_of_le h.1 hb.size, fun i hi => (hb.cell (p := ⟨g, i, none⟩) h.1).trans (h.2 i hi)⟩
def AV.p1 (a : AV) : List Nat := if a.o != 0 then [6] else []
def AV.p2 (a : AV) : List Nat := a.p1 ++ if a.on.zero then [] else [10]
theorem p_places (a : AV) : a.places = a.p2 ++ if a.ar.zero then [] else [14] := by unfold AV.places AV.p2 AV.p1; rw [List.append_assoc]
theorem p1_len (a : AV) : a.p1.length ≤ 1 := by unfold AV.p1; split <;> simp
theorem p2_len (a : AV) : a.p2.length ≤ 2 := by have := p1_len a; unfold AV.p2; split <;> simp <;> omega
set_option maxRecDepth 100000 in
set_option maxHeartbeats 1000000 in
theorem impl_slotTinctures (a : AV) (g : Nat) (w : World) (ha : ArmsAt a g w) : Calls Try.prog 44 #[.pointer (some ⟨g, 0, none⟩)] w fun e w' => ∃ v, e = .returned v ∧ Ptrs g w' w.heap.size v a.places ∧ Below w.heap.size w w' := by
  have he0 := eqg_group
  have he1 := neq_group
  have HA := Lib.hid ha
  clear ha
  go_enter Try.func44, Try.ntmps44
  go_upto_region 2 with fail
  have H0 : Hid (PS g w (w.alloc (.cells #[] 77)) (.slice (some ⟨w.heap.size, 0, none⟩) 0 0) []) := ⟨Recs.lit w, balloc (Below.refl _ _) _⟩
  generalize Value.slice (some ⟨w.heap.size, 0, none⟩) 0 0 = v0 at *
  generalize w.alloc (.cells #[] 77) = W at *
  obtain ⟨z1, c1⟩ := HA.out.below H0.out.2
  go_upto_if 9 with fail
  go_cut [3] from 4 (fun v' w' => ∃ u, u = v' ∧ Hid (PS g w w' u a.p1))
  case first =>
    cases hz : (a.o != 0)
    · have HE : Hid (a.p1 = []) := by show _ = _; unfold AV.p1; rw [hz]; rfl
      go_wp2
      go_meet
      case rel => exact ⟨_, rfl, by show PS _ _ _ _ _; rw [HE.out]; exact H0.out⟩
    · have HE : Hid (a.p1 = [] ++ [6]) := by show _ = _; unfold AV.p1; rw [hz]; rfl
      have hzz := H0.out.2.size
      go_wp2_with (at_builtin; refine wp_appendP rfl _ _ rfl _ _ _ rfl rfl H0.out.1 hzz (by simp) ?_; intro v' w3 hi3 hg3)
      have HN := Lib.hid (H0.out.app hi3 hg3)
      clear hi3 hg3
      go_meet
      case rel => exact ⟨_, rfl, by show PS _ _ _ _ _; rw [HE.out]; exact HN.out⟩
  case rest =>
    obtain ⟨v1, rfl, H1⟩ := hcut
    clear H0 z1 c1
    obtain ⟨z1, c1⟩ := HA.out.below H1.out.2
    go_upto_if 21 with fail
    go_cut [3] from 4 (fun v' w' => ∃ u, u = v' ∧ Hid (PS g w w' u a.p2))
    case first =>
      cases hz : gEq a.on.c a.on.k a.on.a a.on.t 0 0 0 0
      · have HE : Hid (a.p2 = a.p1 ++ [10]) := by show _ = _; unfold AV.p2; rw [show a.on.zero = false from hz]; rfl
        have hzz := H1.out.2.size
        have hl := p1_len a
        go_wp2_with (at_builtin; refine wp_appendP rfl _ _ rfl _ _ _ rfl rfl H1.out.1 hzz (by omega) ?_; intro v' w3 hi3 hg3)
        have HN := Lib.hid (H1.out.app hi3 hg3)
        clear hi3 hg3
        go_meet
        case rel => exact ⟨_, rfl, by show PS _ _ _ _ _; rw [HE.out]; exact HN.out⟩
      · have HE : Hid (a.p2 = a.p1) := by show _ = _; unfold AV.p2; rw [show a.on.zero = true from hz]; simp
        go_wp2
        go_meet
        case rel => exact ⟨_, rfl, by show PS _ _ _ _ _; rw [HE.out]; exact H1.out⟩
    case rest =>
      obtain ⟨v2, rfl, H2⟩ := hcut
      clear H1 z1 c1
      obtain ⟨z1, c1⟩ := HA.out.below H2.out.2
      go_upto_if 34 with fail
      go_cut [3] from 4 (fun v' w' => ∃ u, u = v' ∧ Hid (PS g w w' u a.places))
      case first =>
        cases hz : gEq a.ar.c a.ar.k a.ar.a a.ar.t 0 0 0 0
        · have HE : Hid (a.places = a.p2 ++ [14]) := by show _ = _; rw [p_places, show a.ar.zero = false from hz]; rfl
          have hzz := H2.out.2.size
          have hl := p2_len a
          go_wp2_with (at_builtin; refine wp_appendP rfl _ _ rfl _ _ _ rfl rfl H2.out.1 hzz (by omega) ?_; intro v' w3 hi3 hg3)
          have HN := Lib.hid (H2.out.app hi3 hg3)
          clear hi3 hg3
          go_meet
          case rel => exact ⟨_, rfl, by show PS _ _ _ _ _; rw [HE.out]; exact HN.out⟩
        · have HE : Hid (a.places = a.p2) := by show _ = _; rw [p_places, show a.ar.zero = true from hz]; simp
          go_wp2
          go_meet
          case rel => exact ⟨_, rfl, by show PS _ _ _ _ _; rw [HE.out]; exact H2.out⟩
      case rest =>
        obtain ⟨v3, rfl, H3⟩ := hcut
        clear H2 z1 c1
        go_wp2
        go_ret
        exact ⟨_, rfl, H3.out.1, H3.out.2⟩
end Go.Proofs.Ytonkblhajbphmaa
