/- Arms that are changed, and checked anew. Conditions: as each theorem says. -/
import Derived.Test.YtonkblhajbphmaaRows
import Derived.Test.YtonkblhajbphmaaArms
namespace Go.Proofs.Ytonkblhajbphmaa
set_option linter.unusedSimpArgs false
set_option linter.unusedVariables false
open Go.ChangeShapes Go.WideShapes Go.ChangeAt Go.RowKit

def AV.none : AV := ⟨⟨0, 0, 0, 0⟩, 0, 0, 0, ⟨0, 0, 0, 0⟩, ⟨0, 0, 0, 0⟩⟩
/-- The arms, if they are valid. -/
def AV.only (a : AV) : AV := if a.ok then a else AV.none
/-- New arms out of old ones: both valid, or none. -/
def AV.chk (old a : AV) : AV := if old.ok then a.only else AV.none
def AV.withF (a : AV) (f : FV) : AV := { a with f := f }
def AV.withG (a : AV) (x y : GV) : AV := { a with on := x, ar := y }
def AV.withO (a : AV) (o l t : Int) : AV := { a with o := o, l := l, t := t, on := if o = 0 then ⟨0, 0, 0, 0⟩ else a.on }
theorem Blk.past {w w' : World} {g b : Nat} {t : TypeId} {cs : Array Value} (h : Blk w b t cs) (hg : w.grownBy w' (some g)) (hn : b ≠ g) : Blk w' b t cs := h.grown hg fun e => hn (by injection e)
theorem bgrown {a b c : World} {g : Nat} (h : Below a.heap.size a b) (hg : b.grownBy c (some g)) (hn : a.heap.size ≤ g) : Below a.heap.size a c := h.grown hg h.size fun k hk => by injection hk with hk; omega
section
variable {ops : Array Oper} {rest : List Oper} {o : Oper} {a : Act} {w : World} {Q : Exit → Act → World → Prop} {g : Nat} {t : TypeId} {cs cs0 : Array Value}
theorem wp_ldA' (hc : Region.wanted o (yielded ops a.tmps) = true ∧ (∃ x, o.op = .load 35 x ∧ a.eval x = .pointer (some ⟨g, 0, none⟩)) ∧ cs.size = 15) (hb : Blk w g t cs)
    (hk : wpList Try.prog ops Q rest (a.put o.dst (.agg cs)) w) : wpList Try.prog ops Q (o :: rest) a w := by
  obtain ⟨hw, ⟨x, ho, hx⟩, hz⟩ := hc
  obtain ⟨l⟩ := cs
  refine wpList_step fun K hK => ?_
  rw [if_pos hw]
  refine wp_load_mid 35 x ho g 0 hx l _ (fun j v hv => ?_) Try.underlying35 rfl (by rw [info_arms]; exact congrArg some hz.symm) (hK _ _ hk)
  rw [Nat.zero_add, hb.cell j]
  simpa using hv
theorem wp_stA' (hb : Blk w g t cs0) (hc : Region.wanted o (yielded ops a.tmps) = true ∧ (∃ x y, o.op = .store 35 x y ∧ a.eval x = .pointer (some ⟨g, 0, none⟩) ∧ a.eval y = .agg cs) ∧ cs0.size = 15 ∧ cs.size = 15 ∧ cs.all (·.oneCell') = true)
    (hk : ∀ w', w.grownBy w' (some g) → Blk w' g t cs → wpList Try.prog ops Q rest (a.put o.dst undef) w') : wpList Try.prog ops Q (o :: rest) a w := by
  obtain ⟨hw, ⟨x, y, ho, hx, hy⟩, hz0, hz, h1⟩ := hc
  refine wpList_step fun K hK => ?_
  rw [if_pos hw]
  refine wp_store_mid 35 x y ho g 0 cs hx hy (fun j hj => ?_) (by rw [info_arms, hz]) h1 (hK _ _ (hk _ (setCells_grown _ _ _ _) ?_))
  · rw [Nat.zero_add, hb.cell j, hb.free j]
    exact ⟨by simp; omega, rfl⟩
  · exact (by simpa using setCells_block g t cs.toList 0 w [] cs0.toList rfl (by simp [hz0, hz]) (by simpa [Blk] using hb) : (w.setCells g 0 cs.toList).heap[g]? = some (.cells cs t (0, 0)))
def splice (cs : Array Value) (k : Nat) (vs : Array Value) : Array Value := (cs.toList.take k ++ (vs.toList ++ cs.toList.drop (k + vs.size))).toArray
theorem setCells_part (g : Nat) (t : TypeId) : ∀ (vs : List Value) (o : Nat) (w : World) (pre cs post : List Value), pre.length = o → cs.length = vs.length → w.heap[g]? = some (.cells (pre ++ (cs ++ post)).toArray t (0, 0)) →
    (w.setCells g o vs).heap[g]? = some (.cells (pre ++ (vs ++ post)).toArray t (0, 0))
  | [], o, w, pre, cs, post, _, hl, h => by
    have : cs = [] := List.length_eq_zero_iff.1 hl
    subst this
    exact h
  | v :: vs, o, w, pre, [], post, _, hl, h => nomatch hl
  | v :: vs, o, w, pre, c :: cs, post, ho, hl, h => by
    subst ho
    have h1 : (w.setCell ⟨g, pre.length, none⟩ v).heap[g]? = some (.cells ((pre ++ [v]) ++ (cs ++ post)).toArray t (0, 0)) := by
      simp [World.setCell, Array.getElem?_modify, h]
    have := setCells_part g t vs (pre.length + 1) _ (pre ++ [v]) cs post (by simp) (by simpa using hl) h1
    simpa [World.setCells] using this
theorem wp_stM {ty : TypeId} {k : Nat} {vs : Array Value} (hb : Blk w g t cs) (hc : Region.wanted o (yielded ops a.tmps) = true ∧ (∃ x y, o.op = .store ty x y ∧ a.eval x = .pointer (some ⟨g, k, none⟩) ∧ a.eval y = .agg vs) ∧ k + vs.size ≤ cs.size ∧ (Try.prog.info? ty).map (·.size) = some vs.size ∧ vs.all (·.oneCell') = true)
    (hk : ∀ w', w.grownBy w' (some g) → Blk w' g t (splice cs k vs) → wpList Try.prog ops Q rest (a.put o.dst undef) w') : wpList Try.prog ops Q (o :: rest) a w := by
  obtain ⟨hw, ⟨x, y, ho, hx, hy⟩, hz, hi, h1⟩ := hc
  refine wpList_step fun K hK => ?_
  rw [if_pos hw]
  refine wp_store_mid ty x y ho g k vs hx hy (fun j hj => ?_) hi h1 (hK _ _ (hk _ (setCells_grown _ _ _ _) ?_))
  · rw [hb.cell (k + j), hb.free (k + j)]
    exact ⟨by simp; omega, rfl⟩
  · have hl : cs.toList.length = cs.size := by simp
    refine setCells_part g t vs.toList k w (cs.toList.take k) ((cs.toList.drop k).take vs.size) (cs.toList.drop (k + vs.size)) (by simp; omega) (by simp; omega) ?_
    have e : cs.toList.take k ++ ((cs.toList.drop k).take vs.size ++ cs.toList.drop (k + vs.size)) = cs.toList := by
      rw [← List.drop_drop, List.take_append_drop, List.take_append_drop]
    rw [e]
    simpa [Blk] using hb
end
theorem blk_one (w : World) (t : TypeId) (cs : Array Value) : Blk (w.alloc (.cells cs t)) w.heap.size t cs := Blk.new w t cs
theorem blk_four (w : World) (t t2 t3 t4 : TypeId) (cs cs2 cs3 cs4 : Array Value) : Blk ((((w.alloc (.cells cs t)).alloc (.cells cs2 t2)).alloc (.cells cs3 t3)).alloc (.cells cs4 t4)) w.heap.size t cs ∧ Blk ((((w.alloc (.cells cs t)).alloc (.cells cs2 t2)).alloc (.cells cs3 t3)).alloc (.cells cs4 t4)) (w.heap.size + 1) t2 cs2 ∧
    Blk ((((w.alloc (.cells cs t)).alloc (.cells cs2 t2)).alloc (.cells cs3 t3)).alloc (.cells cs4 t4)) (w.heap.size + 1 + 1) t3 cs3 ∧ Blk ((((w.alloc (.cells cs t)).alloc (.cells cs2 t2)).alloc (.cells cs3 t3)).alloc (.cells cs4 t4)) (w.heap.size + 1 + 1 + 1) t4 cs4 := by
  obtain ⟨a, b, c⟩ := blk_three w t t2 t3 cs cs2 cs3
  refine ⟨a.alloc _, b.alloc _, c.alloc _, ?_⟩
  have := Blk.new (((w.alloc (.cells cs t)).alloc (.cells cs2 t2)).alloc (.cells cs3 t3)) t4 cs4
  simpa using this
theorem late_storeM {P : Program} {o : Oper} {a : Act} {w : World} (ty : TypeId) (x y : Operand) (ho : o.op = .store ty x y) (g k : Nat) (vs cs : Array Value) (t : TypeId)
    (hx : a.eval x = .pointer (some ⟨g, k, none⟩)) (hy : a.eval y = .agg vs) (hb : Blk w g t cs) (hz : k + vs.size ≤ cs.size)
    (hi : (P.info? ty).map (·.size) = some vs.size) (h1 : vs.all (·.oneCell') = true) {R : Value → World → Prop}
    (hR : ∀ w', w.grownBy w' (some g) → Blk w' g t (splice cs k vs) → R undef w') : LateUpon P R ((execOp a.eval o).run P w) := by
  have ht : w.there g k vs.size := fun j hj => by
    rw [hb.cell (k + j), hb.free (k + j)]
    exact ⟨by simp; omega, rfl⟩
  refine ⟨?_⟩
  unfold execOp
  simp only [ho, hx, hy, Instr.storeAt, Instr.sureAddr, Sem.run_bind, Sem.run_pure, Result.andThen_ok, run_storeVar_mid w g k ty vs ht hi h1]
  refine hR _ (setCells_grown g _ _ _) ?_
  have hl : cs.toList.length = cs.size := by simp
  refine setCells_part g t vs.toList k w (cs.toList.take k) ((cs.toList.drop k).take vs.size) (cs.toList.drop (k + vs.size)) (by simp; omega) (by simp; omega) ?_
  have e : cs.toList.take k ++ ((cs.toList.drop k).take vs.size ++ cs.toList.drop (k + vs.size)) = cs.toList := by
    rw [← List.drop_drop, List.take_append_drop, List.take_append_drop]
  rw [e]
  simpa [Blk] using hb
theorem grown_of_below' {w w' : World} (hb : Below w.heap.size w w') (row : Option Nat) : w.grownBy w' row := ⟨hb.os, hb.tape, hb.output, hb.size, fun k hk _ => hb.block k hk⟩
theorem grown_step {w w1 w2 : World} {r : Option Nat} (h : w.grownBy w1 r) (hb : Below w1.heap.size w1 w2) : w.grownBy w2 r :=
  ⟨hb.os.trans h.os, hb.tape.trans h.tape, hb.output.trans h.output, Nat.le_trans h.size hb.size, fun b hb' hne => (hb.block b (Nat.lt_of_lt_of_le hb' h.size)).trans (h.block b hb' hne)⟩
theorem grown_two {w w1 w2 : World} {r : Option Nat} (h : w.grownBy w1 r) (h' : w1.grownBy w2 r) : w.grownBy w2 r :=
  ⟨h'.os.trans h.os, h'.tape.trans h.tape, h'.output.trans h.output, Nat.le_trans h.size h'.size, fun b hb hne => (h'.block b (Nat.lt_of_lt_of_le hb h.size) hne).trans (h.block b hb hne)⟩
/-- A region that draws its order with one store into a block that is known whole, among quiet operations. -/
theorem wp_region_mildS {P : Program} {Q : Exit → Act → World → Prop} {id : Nat} {a : Act} {w : World} {l : List Oper} (bs : List Bool) (s : Nat) (os : Oper) (ty : TypeId) (x y : Operand) (g k : Nat) (t : TypeId) (cs0 : Array Value)
    (hm : P.follows .mixedOrders = true) (hB : mildB .any l.toArray (idxs bs 0) [s] = true) (hs : l.toArray[s]? = some os) (hop : os.op = .store ty x y) (hdst : os.dst = none) (hb : Blk w g t cs0)
    (h : wpMildL P l.toArray (fun w' => w.grownBy w' (some g)) (fun aq => ∃ vs : Array Value, aq.eval x = .pointer (some ⟨g, k, none⟩) ∧ aq.eval y = .agg vs ∧ k + vs.size ≤ cs0.size ∧ (P.info? ty).map (·.size) = some vs.size ∧ vs.all (·.oneCell') = true ∧
      ∀ w', w.grownBy w' (some g) → Blk w' g t (splice cs0 k vs) → Q .normal aq w') l bs a) : (Code.region id l.toArray true).wp P Q a w := by
  replace h := wpMild_of_list l bs 0 a (by simp) h
  generalize idxs bs 0 = qs at *
  have hd : w.grownBy { w with drawn := w.drawn + 1 } (some g) := ⟨rfl, rfl, rfl, Nat.le_refl _, fun _ _ _ => rfl⟩
  have hx : ∃ vs : Array Value, wpMild P l.toArray (fun w' => w.grownBy w' (some g)) (fun aq => aq.eval x = .pointer (some ⟨g, k, none⟩) ∧ aq.eval y = .agg vs ∧ k + vs.size ≤ cs0.size ∧ (P.info? ty).map (·.size) = some vs.size ∧ vs.all (·.oneCell') = true ∧
      ∀ w', w.grownBy w' (some g) → Blk w' g t (splice cs0 k vs) → Q .normal aq w') qs a := wpMild_exists qs a h
  obtain ⟨vs, h⟩ := hx
  have hlp : ∀ (aq : Act), lateput l.toArray (fun _ => undef) [s] aq = aq := fun aq => by
    simp only [lateput, hs, Option.bind_some, hdst]
    rfl
  refine wp_region_mild (C := fun w' => w.grownBy w' (some g)) (γ := Unit) (U := fun _ _ => undef)
    (E := fun L _ w' => Blk w' g t (if L s then splice cs0 k vs else cs0)) qs [s] () hm hB hd (show Blk w g t _ by simpa using hb)
    (fun L _ w1 w2 h1 hE h2 => ⟨grown_step h1 h2, hE.below h2⟩) (fun L L' _ w1 hl hE => ?_) (wpMild_mono (fun aq haq => ⟨fun i hi o ho L _ w1 hC hE hLi hdep => ?_, fun L _ w' hall hC hE => ?_⟩) qs a h)
  · rw [hl s (by simp)]
    exact hE
  · obtain ⟨hev, hey, hz, hi', h1, _⟩ := haq
    rw [hlp]
    have hcase : i = s := by simpa using hi
    subst hcase
    rw [hs] at ho
    injection ho with ho
    subst ho
    rw [hLi] at hE
    simp only [Bool.false_eq_true, if_false] at hE
    refine late_storeM ty x y hop g k vs cs0 t hev hey hE hz hi' h1 fun w2 hg hb2 => ?_
    refine ⟨(), rfl, fun _ _ _ => rfl, grown_two hC hg, ?_⟩
    simpa using hb2
  · obtain ⟨hev, hey, hz, hi', h1, hfin⟩ := haq
    have hss' : s < l.toArray.size := (Array.getElem?_eq_some_iff.1 hs).1
    rw [hall s hss'] at hE
    rw [hlp]
    exact hfin w' hC (by simpa using hE)
theorem splice_size {cs vs : Array Value} {k : Nat} (h : k + vs.size ≤ cs.size) : (splice cs k vs).size = cs.size := by
  unfold splice
  simp
  omega
theorem wp_region_mildS2 {P : Program} {Q : Exit → Act → World → Prop} {id : Nat} {a : Act} {w : World} {l : List Oper} (bs : List Bool) (s1 s2 : Nat) (os1 os2 : Oper) (ty1 ty2 : TypeId) (x1 y1 x2 y2 : Operand) (g k1 k2 : Nat) (t : TypeId) (cs0 : Array Value)
    (hm : P.follows .mixedOrders = true) (hB : mildB .any l.toArray (idxs bs 0) [s1, s2] = true) (hne : s1 ≠ s2) (hs1 : l.toArray[s1]? = some os1) (hs2 : l.toArray[s2]? = some os2) (hop1 : os1.op = .store ty1 x1 y1) (hop2 : os2.op = .store ty2 x2 y2)
    (hdst1 : os1.dst = none) (hdst2 : os2.dst = none) (hb : Blk w g t cs0)
    (h : wpMildL P l.toArray (fun w' => w.grownBy w' (some g)) (fun aq => ∃ vs : Array Value × Array Value, (aq.eval x1 = .pointer (some ⟨g, k1, none⟩) ∧ aq.eval y1 = .agg vs.1 ∧ k1 + vs.1.size ≤ cs0.size ∧ (P.info? ty1).map (·.size) = some vs.1.size ∧ vs.1.all (·.oneCell') = true) ∧
      (aq.eval x2 = .pointer (some ⟨g, k2, none⟩) ∧ aq.eval y2 = .agg vs.2 ∧ k2 + vs.2.size ≤ cs0.size ∧ (P.info? ty2).map (·.size) = some vs.2.size ∧ vs.2.all (·.oneCell') = true) ∧ splice (splice cs0 k2 vs.2) k1 vs.1 = splice (splice cs0 k1 vs.1) k2 vs.2 ∧
      ∀ w', w.grownBy w' (some g) → Blk w' g t (splice (splice cs0 k1 vs.1) k2 vs.2) → Q .normal aq w') l bs a) : (Code.region id l.toArray true).wp P Q a w := by
  replace h := wpMild_of_list l bs 0 a (by simp) h
  generalize idxs bs 0 = qs at *
  have hd : w.grownBy { w with drawn := w.drawn + 1 } (some g) := ⟨rfl, rfl, rfl, Nat.le_refl _, fun _ _ _ => rfl⟩
  obtain ⟨vs, h⟩ := wpMild_exists qs a h
  have hlp : ∀ (aq : Act), lateput l.toArray (fun _ => undef) [s1, s2] aq = aq := fun aq => by
    simp only [lateput, hs1, hs2, Option.bind_some, hdst1, hdst2]
    rfl
  refine wp_region_mild (C := fun w' => w.grownBy w' (some g)) (γ := Unit) (U := fun _ _ => undef)
    (E := fun L _ w' => Blk w' g t (if L s1 then (if L s2 then splice (splice cs0 k1 vs.1) k2 vs.2 else splice cs0 k1 vs.1) else (if L s2 then splice cs0 k2 vs.2 else cs0))) qs [s1, s2] () hm hB hd (show Blk w g t _ by simpa using hb)
    (fun L _ w1 w2 h1 hE h2 => ⟨grown_step h1 h2, hE.below h2⟩) (fun L L' _ w1 hl hE => ?_) (wpMild_mono (fun aq haq => ⟨fun i hi o ho L _ w1 hC hE hLi hdep => ?_, fun L _ w' hall hC hE => ?_⟩) qs a h)
  · rw [hl s1 (by simp), hl s2 (by simp)]
    exact hE
  · obtain ⟨⟨hev, hey, hz, hi', h1⟩, ⟨hev2, hey2, hz2, hi2', h12⟩, hcomm, _⟩ := haq
    rw [hlp]
    have e12 : (s1 == s2) = false := by simpa using hne
    have e21 : (s2 == s1) = false := by simpa using Ne.symm hne
    have hcase : i = s1 ∨ i = s2 := by simpa using hi
    rcases hcase with rfl | rfl
    · rw [hs1] at ho
      injection ho with ho
      subst ho
      rw [hLi] at hE
      simp only [Bool.false_eq_true, if_false] at hE
      cases hL2 : L s2
      · simp only [hL2, Bool.false_eq_true, if_false] at hE
        refine late_storeM ty1 x1 y1 hop1 g k1 vs.1 cs0 t hev hey hE hz hi' h1 fun w2 hg hb2 => ?_
        refine ⟨(), rfl, fun _ _ _ => rfl, grown_two hC hg, ?_⟩
        simpa [hL2, e21] using hb2
      · simp only [hL2, if_true] at hE
        refine late_storeM ty1 x1 y1 hop1 g k1 vs.1 _ t hev hey hE (by rw [splice_size hz2]; exact hz) hi' h1 fun w2 hg hb2 => ?_
        refine ⟨(), rfl, fun _ _ _ => rfl, grown_two hC hg, ?_⟩
        rw [hcomm] at hb2
        simpa [hL2, e21] using hb2
    · rw [hs2] at ho
      injection ho with ho
      subst ho
      rw [hLi] at hE
      simp only [Bool.false_eq_true, if_false] at hE
      cases hL1 : L s1
      · simp only [hL1, Bool.false_eq_true, if_false] at hE
        refine late_storeM ty2 x2 y2 hop2 g k2 vs.2 cs0 t hev2 hey2 hE hz2 hi2' h12 fun w2 hg hb2 => ?_
        refine ⟨(), rfl, fun _ _ _ => rfl, grown_two hC hg, ?_⟩
        simpa [hL1, e12] using hb2
      · simp only [hL1, if_true] at hE
        refine late_storeM ty2 x2 y2 hop2 g k2 vs.2 _ t hev2 hey2 hE (by rw [splice_size hz]; exact hz2) hi2' h12 fun w2 hg hb2 => ?_
        refine ⟨(), rfl, fun _ _ _ => rfl, grown_two hC hg, ?_⟩
        simpa [hL1, e12] using hb2
  · obtain ⟨_, _, _, hfin⟩ := haq
    have hss1 : s1 < l.toArray.size := (Array.getElem?_eq_some_iff.1 hs1).1
    have hss2 : s2 < l.toArray.size := (Array.getElem?_eq_some_iff.1 hs2).1
    rw [hall s1 hss1, hall s2 hss2] at hE
    rw [hlp]
    exact hfin w' hC (by simpa using hE)
end Go.Proofs.Ytonkblhajbphmaa
