/- Slices of records of the call's own, each of n cells; loads and stores of whole records. Conditions: as each theorem says. -/
import Derived.Test.YtonkblhajbphmaaRows
import Derived.Test.YtonkblhajbphmaaArms5
namespace Go.Proofs.Ytonkblhajbphmaa
set_option linter.unusedSimpArgs false
set_option linter.unusedVariables false
open Go.ChangeShapes Go.WideShapes Go.ChangeAt Go.RowKit

/-! ### lists of records -/
section
variable {α : Type} {n : Nat} {f : α → List Value}
def flatR (f : α → List Value) (xs : List α) : List Value := xs.flatMap f
theorem flatR_cons (x : α) (xs : List α) : flatR f (x :: xs) = f x ++ flatR f xs := rfl
theorem flatR_app (xs ys : List α) : flatR f (xs ++ ys) = flatR f xs ++ flatR f ys := by simp [flatR]
theorem flatR_len (hf : ∀ x, (f x).length = n) (xs : List α) : (flatR f xs).length = xs.length * n := by
  induction xs with
  | nil => simp [flatR]
  | cons x xs ih => rw [flatR_cons, List.length_append, hf, ih, List.length_cons, Nat.succ_mul]; omega
theorem flatR_at (hf : ∀ x, (f x).length = n) (d : α) (xs : List α) (k j : Nat) (h : k < xs.length) (hj : j < n) : (flatR f xs)[k * n + j]? = (f (xs.getD k d))[j]? := by
  induction xs generalizing k with
  | nil => simp at h
  | cons x xs ih =>
    cases k with
    | zero =>
      rw [flatR_cons, Nat.zero_mul, Nat.zero_add, List.getElem?_append_left (by rw [hf]; exact hj)]
      rfl
    | succ k =>
      have e : (k + 1) * n = k * n + n := Nat.succ_mul k n
      rw [flatR_cons, List.getElem?_append_right (by rw [hf, e]; omega), hf, e, show k * n + n + j - n = k * n + j by omega, ih k (by simpa using h)]
      rfl
def setL (xs : List Value) (o : Nat) : List Value → List Value
  | [] => xs
  | v :: r => setL (xs.set o v) (o + 1) r
theorem setL_mid : ∀ (vs pre mid post : List Value), mid.length = vs.length → setL (pre ++ (mid ++ post)) pre.length vs = pre ++ (vs ++ post)
  | [], pre, mid, post, h => by
    have : mid = [] := List.length_eq_zero_iff.1 h
    subst this
    rfl
  | v :: r, pre, [], post, h => nomatch h
  | v :: r, pre, m :: mid, post, h => by
    have e : (pre ++ (m :: mid ++ post)).set pre.length v = (pre ++ [v]) ++ (mid ++ post) := by
      rw [List.set_append_right _ _ (Nat.le_refl _)]
      simp
    have := setL_mid r (pre ++ [v]) mid post (by simpa using h)
    rw [setL, e]
    simpa using this
theorem flatR_set (hf : ∀ x, (f x).length = n) (xs : List α) (k : Nat) (y : α) (h : k < xs.length) : setL (flatR f xs) (k * n) (f y) = flatR f (xs.set k y) := by
  have e : xs = xs.take k ++ xs[k] :: xs.drop (k + 1) := by rw [← List.drop_eq_getElem_cons h, List.take_append_drop]
  have e2 : xs.set k y = xs.take k ++ y :: xs.drop (k + 1) := by
    rw [List.set_eq_take_append_cons_drop, if_pos h]
  have hl : (flatR f (xs.take k)).length = k * n := by rw [flatR_len hf, List.length_take, Nat.min_eq_left (Nat.le_of_lt h)]
  rw [e2, flatR_app, flatR_cons]
  conv => lhs; rw [e, flatR_app, flatR_cons, ← hl]
  exact setL_mid (f y) _ (f xs[k]) _ (by rw [hf, hf])
theorem madeCells_rep (z : Array Value) (n : Nat) (hz : 0 < z.size) : (madeCells z (n * z.size)).toList = flatR (fun _ : Unit => z.toList) (List.replicate n ()) := by
  apply List.ext_getElem?
  intro j
  by_cases hj : j < n * z.size
  · have h1 : j / z.size < n := (Nat.div_lt_iff_lt_mul hz).2 hj
    have h2 := Nat.mod_lt j hz
    have h3 : j = j / z.size * z.size + j % z.size := by rw [Nat.mul_comm]; exact (Nat.div_add_mod j z.size).symm
    have h4 := flatR_at (f := fun _ : Unit => z.toList) (n := z.size) (fun _ => by simp) () (List.replicate n ()) (j / z.size) (j % z.size) (by simpa using h1) h2
    rw [← h3] at h4
    rw [h4]
    simp [madeCells, hj, h2]
  · have h1 : (flatR (fun _ : Unit => z.toList) (List.replicate n ())).length = n * z.size := by rw [flatR_len (n := z.size) (fun _ => by simp)]; simp
    rw [List.getElem?_eq_none (by simp [madeCells]; omega), List.getElem?_eq_none (by rw [h1]; omega)]
theorem flatR_rep (f : α → List Value) (x : α) (n : Nat) : flatR (fun _ : Unit => f x) (List.replicate n ()) = flatR f (List.replicate n x) := by
  induction n with
  | zero => rfl
  | succ n ih => rw [List.replicate_succ, List.replicate_succ, flatR_cons, flatR_cons, ih]
end

/-! ### a row of records of the call's own -/
theorem ownsRow_setCells {base size g m cap : Nat} {e : TypeId} : ∀ (vs : List Value) (o : Nat) (w : World) (xs : List Value), w.ownsRow base e size (.slice (some ⟨g, 0, none⟩) m cap) m xs →
    (w.setCells g o vs).ownsRow base e size (.slice (some ⟨g, 0, none⟩) m cap) m (setL xs o vs)
  | [], _, _, _, h => h
  | v :: r, o, w, xs, h => ownsRow_setCells r (o + 1) _ _ (h.stored o v).1
def Recs {α : Type} (e : TypeId) (n : Nat) (f : α → List Value) (w : World) (B : Nat) (v : Value) (xs : List α) : Prop := w.ownsRow B e n v xs.length (flatR f xs)
section
variable {α : Type} {e : TypeId} {n : Nat} {f : α → List Value} {w w' : World} {B : Nat} {v : Value} {xs : List α}
theorem Recs.below (h : Recs e n f w B v xs) (hb : Below w.heap.size w w') : Recs e n f w' B v xs := own_below h hb
theorem Recs.base {B' : Nat} (h : Recs e n f w B v xs) (hB : B' ≤ B) : Recs e n f w B' v xs := own_base h hB
theorem Recs.kept {v1 : Value} (h : Recs e n f w B v xs) (hg : w.grownBy w' v1.ownBlock) (hne : v.ownBlock = none ∨ v.ownBlock ≠ v1.ownBlock) : Recs e n f w' B v xs := World.ownsRow.kept h hg hne
theorem Recs.drewN (h : Recs e n f w B v xs) (k : Nat) : Recs e n f (w.drewN k) B v xs := h
theorem Recs.nil (w : World) (B : Nat) : Recs e n f w B (.slice none 0 0) [] := World.ownsRow_nil _ _ _ _
theorem Recs.lit (w : World) : Recs e n f (w.alloc (.cells #[] e)) w.heap.size (.slice (some ⟨w.heap.size, 0, none⟩) 0 0) [] := by
  have := World.ownsRow_lit (base := w.heap.size) (e := e) (size := n) w #[] 0 (Nat.le_refl _) (by decide) (by simp)
  simpa [Recs, flatR] using this
theorem Recs.room (h : Recs e n f w B v xs) : xs.length ≤ maxLen := by
  rcases h.2 with ⟨_, h0⟩ | ⟨g, cap, cur, _, _, _, hn, hm, _⟩
  · omega
  · omega
theorem Recs.lt (h : Recs e n f w B v xs) : ∀ k, v.ownBlock = some k → B ≤ k ∧ k < w.heap.size := World.ownsRow.lt h
theorem Recs.shape (hf : ∀ x, (f x).length = n) (d : α) (h : Recs e n f w B v xs) : ∃ A c, v = .slice A xs.length c ∧ ∀ k, k < xs.length → ∃ g, A = some ⟨g, 0, none⟩ ∧ B ≤ g ∧ g < w.heap.size ∧
    w.rangeAt g (k * n) (f (xs.getD k d)) ∧ ∀ j, w.frozen? ⟨g, j, none⟩ = false := by
  have h' := h
  unfold Recs at h'
  rcases h.2 with ⟨rfl, h0⟩ | ⟨g, cap, cur, rfl, hB, hg, _⟩
  · exact ⟨none, 0, by rw [h0], fun k hk => by omega⟩
  · refine ⟨some ⟨g, 0, none⟩, cap, rfl, fun k hk => ⟨g, rfl, hB, (Array.getElem?_eq_some_iff.1 hg).1, fun j u hu => ?_, h'.frozenAt⟩⟩
    have hj : j < n := by rw [← hf (xs.getD k d)]; exact (List.getElem?_eq_some_iff.1 hu).1
    have hlt : k * n + j < xs.length * n := by
      have : (k + 1) * n ≤ xs.length * n := Nat.mul_le_mul_right n hk
      rw [Nat.succ_mul] at this
      omega
    rw [h'.cellAt _ hlt, flatR_at hf d xs k j hk hj]
    exact hu
theorem Recs.there (hf : ∀ x, (f x).length = n) {g c : Nat} (h : Recs e n f w B (.slice (some ⟨g, 0, none⟩) xs.length c) xs) {k : Nat} (hk : k < xs.length) : w.there g (k * n) n := fun j hj => by
  unfold Recs at h
  have hlt : k * n + j < xs.length * n := by
    have : (k + 1) * n ≤ xs.length * n := Nat.mul_le_mul_right n hk
    rw [Nat.succ_mul] at this
    omega
  refine ⟨?_, h.frozenAt _⟩
  rw [h.cellAt _ hlt]
  have := flatR_len hf xs
  simp [this, hlt]
theorem Recs.stored (hf : ∀ x, (f x).length = n) {g c : Nat} (h : Recs e n f w B (.slice (some ⟨g, 0, none⟩) xs.length c) xs) {k : Nat} (hk : k < xs.length) (y : α) :
    Recs e n f (w.setCells g (k * n) (f y)) B (.slice (some ⟨g, 0, none⟩) xs.length c) (xs.set k y) ∧ w.grownBy (w.setCells g (k * n) (f y)) (some g) := by
  refine ⟨?_, setCells_grown _ _ _ _⟩
  unfold Recs at h ⊢
  have := ownsRow_setCells (f y) (k * n) w _ h
  rw [flatR_set hf xs k y hk] at this
  simpa using this
theorem Recs.far {g : Nat} (h : Recs e n f w B v xs) (hg : w.grownBy w' (some g)) (hlt : g < B) : Recs e n f w' B v xs := by
  refine World.ownsRow.kept h hg ?_
  cases hv : v.ownBlock with
  | none => exact .inl rfl
  | some k =>
    refine .inr fun he => ?_
    have h1 := (h.lt k hv).1
    injection he with he
    omega
theorem setCell_grown (w : World) (g o : Nat) (v : Value) : w.grownBy (w.setCell ⟨g, o, none⟩ v) (some g) := setCells_grown g [v] o w
theorem Recs.made (w : World) {z : Array Value} (x : α) (hzx : z.toList = f x) (hz : z.size = n) (hn : 0 < n) {m : Nat} (h : w.ownsRow B e n v m (madeCells z (m * n)).toList) : Recs e n f w B v (List.replicate m x) := by
  subst hz
  rw [madeCells_rep z m hn, hzx, flatR_rep] at h
  unfold Recs
  simpa using h
end

/-! ### loads and stores of a whole record -/
/-- The cells cs lie at an address. -/
def RangeX (w : World) (x : Addr) (cs : List Value) : Prop := ∀ j v, cs[j]? = some v → w.cell? (x.add j) = some v
theorem RangeX.of {w : World} {g o : Nat} {cs : List Value} (h : w.rangeAt g o cs) : RangeX w ⟨g, o, none⟩ cs := fun j v hv => by rw [Addr.add_mid]; exact h j v hv
theorem RangeX.below {w w' : World} {x : Addr} {cs : List Value} (h : RangeX w x cs) (hb : Below w.heap.size w w') : RangeX w' x cs := fun j v hv => by
  have h1 := h j v hv
  exact (hb.cell (World.block_lt_of_cell? _ _ h1)).trans h1
theorem range_below {w w' : World} {g o : Nat} {cs : List Value} (h : w.rangeAt g o cs) (hb : Below w.heap.size w w') : w'.rangeAt g o cs := fun j v hv => by
  have h1 := h j v hv
  exact (hb.cell (World.block_lt_of_cell? _ _ h1)).trans h1
/-- The type is a row of k cells. -/
def RowTy (P : Program) (ty : TypeId) (k : Nat) : Prop := (∃ d, P.underlying ty = some d ∧ d.isRow = true) ∧ (P.info? ty).map (·.size) = some k
theorem run_loadVar_X {P : Program} (w : World) (x : Addr) (ty : TypeId) (cs : List Value) (hc : RangeX w x cs) (ht : RowTy P ty cs.length) : (loadVar ty x).run P w = .ok (.agg cs.toArray) w := by
  obtain ⟨⟨d, hu, hd⟩, hi⟩ := ht
  have hl : (loadCells x cs.length).run P w = .ok cs.toArray w := run_loadCells_list (P := P) w x cs hc
  cases hq : P.info? ty with
  | none => simp [hq] at hi
  | some i =>
    have hs : i.size = cs.length := by simpa [hq] using hi
    have hagg : (isAgg ty).run P w = .ok true w := by
      unfold isAgg
      rw [Sem.run_bind, run_underlying hu w]
      cases d <;> simp_all
    simp [loadVar, Sem.run_bind, hagg, sizeOf, typeInfo, hq, hs, hl]
section
variable {P : Program} {ops : Array Oper} {rest : List Oper} {o : Oper} {a : Act} {w : World} {Q : Exit → Act → World → Prop}
theorem wp_ldX {ty : TypeId} {x : Addr} {cs : List Value} (hc : Region.wanted o (yielded ops a.tmps) = true ∧ (∃ y, o.op = .load ty y ∧ a.eval y = .pointer (some x))) (ht : RowTy P ty cs.length) (hr : RangeX w x cs)
    (hk : wpList P ops Q rest (a.put o.dst (.agg cs.toArray)) w) : wpList P ops Q (o :: rest) a w := by
  obtain ⟨hw, ⟨y, ho, hx⟩⟩ := hc
  refine wpList_step fun K hK => ?_
  rw [if_pos hw]
  unfold Oper.wp execOp
  simp only [ho, hx, Instr.loadAt, Instr.sureAddr, Sem.run_bind, Sem.run_pure, Result.andThen_ok, run_loadVar_X w x ty cs hr ht]
  exact hK _ _ hk
theorem wp_stX {ty : TypeId} {g k : Nat} {vs : Array Value} (hc : Region.wanted o (yielded ops a.tmps) = true ∧ (∃ x y, o.op = .store ty x y ∧ a.eval x = .pointer (some ⟨g, k, none⟩) ∧ a.eval y = .agg vs)) (hi : (P.info? ty).map (·.size) = some vs.size) (h1 : vs.all (·.oneCell') = true)
    (ht : w.there g k vs.size) (hk : wpList P ops Q rest (a.put o.dst undef) (w.setCells g k vs.toList)) : wpList P ops Q (o :: rest) a w := by
  obtain ⟨hw, ⟨x, y, ho, hx, hy⟩⟩ := hc
  refine wpList_step fun K hK => ?_
  rw [if_pos hw]
  exact wp_store_mid ty x y ho g k vs hx hy ht hi h1 (hK _ _ hk)
theorem wp_ldB {ty : TypeId} {n g : Nat} {t : TypeId} {cs : Array Value} (hc : Region.wanted o (yielded ops a.tmps) = true ∧ (∃ x, o.op = .load ty x ∧ a.eval x = .pointer (some ⟨g, 0, none⟩)) ∧ cs.size = n) (ht : RowTy P ty n) (hb : Blk w g t cs)
    (hk : wpList P ops Q rest (a.put o.dst (.agg cs)) w) : wpList P ops Q (o :: rest) a w := by
  obtain ⟨hw, hx, hz⟩ := hc
  obtain ⟨l⟩ := cs
  refine wp_ldX ⟨hw, hx⟩ (cs := l) (by simpa [← hz] using ht) (fun j v hv => ?_) hk
  rw [Addr.add_mid, Nat.zero_add, hb.cell j]
  simpa using hv
theorem wp_stB {ty : TypeId} {n g : Nat} {t : TypeId} {cs cs0 : Array Value} (ht : RowTy P ty n) (hb : Blk w g t cs0)
    (hc : Region.wanted o (yielded ops a.tmps) = true ∧ (∃ x y, o.op = .store ty x y ∧ a.eval x = .pointer (some ⟨g, 0, none⟩) ∧ a.eval y = .agg cs) ∧ cs0.size = n ∧ cs.size = n ∧ cs.all (·.oneCell') = true)
    (hk : ∀ w', w.grownBy w' (some g) → Blk w' g t cs → wpList P ops Q rest (a.put o.dst undef) w') : wpList P ops Q (o :: rest) a w := by
  obtain ⟨hw, hx, hz0, hz, h1⟩ := hc
  refine wp_stX ⟨hw, hx⟩ (by rw [ht.2, hz]) h1 (fun j hj => ?_) (hk _ (setCells_grown _ _ _ _) ?_)
  · rw [Nat.zero_add, hb.cell j, hb.free j]
    exact ⟨by simp; omega, rfl⟩
  · exact (by simpa using setCells_block g t cs.toList 0 w [] cs0.toList rfl (by simp [hz0, hz]) (by simpa [Blk] using hb) : (w.setCells g 0 cs.toList).heap[g]? = some (.cells cs t (0, 0)))
theorem ret_rowG {fn : Func} {R : Ending → World → Prop} {p : Tmp} {ty : TypeId} {n g : Nat} {t : TypeId} {cs : Array Value} (ht : RowTy P ty n) (h : fn.results = #[.cell p ty]) (hp : a.tmps.getD p undef = .pointer (some ⟨g, 0, none⟩)) (hb : Blk w g t cs) (hz : cs.size = n) (hdf : a.defers = []) (hR : R (.returned (.agg cs)) w) :
    bodyPost P fn R .ret a w := by
  obtain ⟨⟨d, hu, hd⟩, hi⟩ := ht
  exact bodyPost_ret (results_cell_row h _ w g t cs (0, 0) d hp hb hu (by cases d <;> first | rfl | cases hd) (by rw [hi, hz])) hdf hR
theorem ret_rowG2 {fn : Func} {R : Ending → World → Prop} {p u : Tmp} {ty : TypeId} {n g : Nat} {t : TypeId} {cs : Array Value} (ht : RowTy P ty n) (h : fn.results = #[.cell p ty, .tmp u]) (hp : a.tmps.getD p undef = .pointer (some ⟨g, 0, none⟩)) (hb : Blk w g t cs) (hz : cs.size = n) (hdf : a.defers = []) {v : Value} (hv : a.tmps.getD u undef = v)
    (hR : R (.returned (.tuple #[.agg cs, v])) w) : bodyPost P fn R .ret a w := by
  subst hv
  obtain ⟨⟨d, hu, hd⟩, hi⟩ := ht
  refine bodyPost_ret ?_ hdf hR
  have hl := run_loadVar_row w g t ty cs (0, 0) d hb hu (by cases d <;> first | rfl | cases hd) (by rw [hi, hz])
  rw [results_cell_tmp h, hp]
  simp [asAddr, hl]
theorem Blk.head {g : Nat} {t : TypeId} {L R : List Value} (h : Blk w g t (L ++ R).toArray) : RangeX w ⟨g, 0, none⟩ L := fun j v hv => by
  rw [Addr.add_mid, Nat.zero_add, h.cell j]
  have hj := (List.getElem?_eq_some_iff.1 hv).1
  simpa [List.getElem?_append_left hj] using hv
theorem mild_loadX {C : World → Prop} {ty : TypeId} (x : Operand) (ho : o.op = .load ty x) (p : Addr) (hx : a.eval x = .pointer (some p)) (cs : List Value) (hb : ∀ w, C w → RangeX w p cs) (ht : RowTy P ty cs.length) {R : World → World → Prop} :
    ∀ w, C w → o.quietAt P a (R w) w (.agg cs.toArray) := fun w hw => by
  unfold Oper.quietAt execOp
  simp only [ho, hx, Instr.loadAt, Instr.sureAddr, Sem.run_bind, Sem.run_pure, Result.andThen_ok, run_loadVar_X w p ty cs (hb w hw) ht]
  exact ⟨rfl, rfl⟩
end
theorem mild_loadR {P : Program} {C : World → Prop} {o : Oper} {a : Act} (ty : TypeId) (x : Operand) (ho : o.op = .load ty x) (g off : Nat) (hx : a.eval x = .pointer (some ⟨g, off, none⟩)) (cs : List Value) (d : TypeDesc)
    (hb : ∀ w, C w → w.rangeAt g off cs) (hu : P.underlying ty = some d) (hd : d.isRow = true) (hi : (P.info? ty).map (·.size) = some cs.length) {R : World → World → Prop} :
    ∀ w, C w → o.quietAt P a (R w) w (.agg cs.toArray) := fun w hw => by
  unfold Oper.quietAt execOp
  simp only [ho, hx, Instr.loadAt, Instr.sureAddr, Sem.run_bind, Sem.run_pure, Result.andThen_ok, run_loadVar_mid w g off ty cs d (hb w hw) hu hd hi]
  exact ⟨rfl, rfl⟩

/-! ### a region that draws its order, with two struct variables alloc'd and stored -/
section
variable {P : Program}
theorem wp_region_mild2 {Q : Exit → Act → World → Prop} {id : Nat} {a : Act} {w : World} {l : List Oper} (bs : List Bool) (k1 k2 s1 s2 d1 d2 : Nat) (ok1 ok2 os1 os2 : Oper) (ty1 ty2 : TypeId) (x1 y1 x2 y2 : Operand) (cs1 cs2 : Array Value) (t1 t2 : TypeId)
    (hm : P.follows .mixedOrders = true) (hB : mildB .any l.toArray (idxs bs 0) [k1, k2, s1, s2] = true)
    (hk1 : l.toArray[k1]? = some ok1) (hk2 : l.toArray[k2]? = some ok2) (hs1 : l.toArray[s1]? = some os1) (hs2 : l.toArray[s2]? = some os2) (hne : nodupB [k1, k2, s1, s2] = true)
    (hw1 : waitsB .any os1 k1 = true) (hw2 : waitsB .any os2 k2 = true) (hop1 : os1.op = .store ty1 x1 y1) (hop2 : os2.op = .store ty2 x2 y2) (hdst1 : os1.dst = none) (hdst2 : os2.dst = none) (hdk1 : ok1.dst = some d1) (hdk2 : ok2.dst = some d2)
    (hinfo1 : (P.info? ty1).map (·.size) = some cs1.size) (hinfo2 : (P.info? ty2).map (·.size) = some cs2.size)
    (ha1 : ∀ (ρ : Operand → Value) w, (execOp ρ ok1).run P w = .ok (.value (.pointer (some ⟨w.heap.size, 0, none⟩))) (w.alloc (.cells cs1 t1)))
    (ha2 : ∀ (ρ : Operand → Value) w, (execOp ρ ok2).run P w = .ok (.value (.pointer (some ⟨w.heap.size, 0, none⟩))) (w.alloc (.cells cs2 t2)))
    (h : wpMildL P l.toArray (fun w' => Below w.heap.size w w') (fun aq => ∃ vs : Array Value × Array Value,
      (∀ g1 g2, (((aq.put (some d1) (.pointer (some ⟨g1, 0, none⟩))).put (some d2) (.pointer (some ⟨g2, 0, none⟩))).eval x1 = .pointer (some ⟨g1, 0, none⟩) ∧ ((aq.put (some d1) (.pointer (some ⟨g1, 0, none⟩))).put (some d2) (.pointer (some ⟨g2, 0, none⟩))).eval y1 = .agg vs.1) ∧
        (((aq.put (some d1) (.pointer (some ⟨g1, 0, none⟩))).put (some d2) (.pointer (some ⟨g2, 0, none⟩))).eval x2 = .pointer (some ⟨g2, 0, none⟩) ∧ ((aq.put (some d1) (.pointer (some ⟨g1, 0, none⟩))).put (some d2) (.pointer (some ⟨g2, 0, none⟩))).eval y2 = .agg vs.2)) ∧
      (cs1.size = vs.1.size ∧ vs.1.all (·.oneCell') = true) ∧ (cs2.size = vs.2.size ∧ vs.2.all (·.oneCell') = true) ∧
      ∀ g1 g2 w', w.heap.size ≤ g1 → w.heap.size ≤ g2 → g1 ≠ g2 → Below w.heap.size w w' → Blk w' g1 t1 vs.1 → Blk w' g2 t2 vs.2 → Q .normal ((aq.put (some d1) (.pointer (some ⟨g1, 0, none⟩))).put (some d2) (.pointer (some ⟨g2, 0, none⟩))) w') l bs a) :
    (Code.region id l.toArray true).wp P Q a w := by
  replace h := wpMild_of_list l bs 0 a (by simp) h
  generalize idxs bs 0 = qs at *
  have hd : Below w.heap.size w { w with drawn := w.drawn + 1 } := ⟨rfl, rfl, rfl, Nat.le_refl _, fun _ _ => rfl⟩
  obtain ⟨vs, h⟩ := wpMild_exists qs a h
  simp only [nodupB, List.contains_cons, List.contains_nil, Bool.or_false, Bool.and_true, Bool.and_eq_true, Bool.not_eq_true', Bool.or_eq_false_iff, Bool.not_false, beq_eq_false_iff_ne, ne_eq] at hne
  obtain ⟨⟨n12, n13, n14⟩, ⟨n23, n24⟩, n34⟩ := hne
  have hlp : ∀ (g : Nat × Nat) (aq : Act), lateput l.toArray (fun i => if i = k1 then .pointer (some ⟨g.1, 0, none⟩) else if i = k2 then .pointer (some ⟨g.2, 0, none⟩) else undef) [k1, k2, s1, s2] aq = (aq.put (some d1) (.pointer (some ⟨g.1, 0, none⟩))).put (some d2) (.pointer (some ⟨g.2, 0, none⟩)) := fun g aq => by
    simp only [lateput, hk1, hk2, hs1, hs2, Option.bind_some, hdst1, hdst2, hdk1, hdk2, if_true, if_neg (Ne.symm n12)]
    rfl
  refine wp_region_mild (C := fun w' => Below w.heap.size w w') (γ := Nat × Nat) (U := fun g i => if i = k1 then .pointer (some ⟨g.1, 0, none⟩) else if i = k2 then .pointer (some ⟨g.2, 0, none⟩) else undef)
    (E := fun L g w' => ((L s1 = true → L k1 = true) ∧ (L s2 = true → L k2 = true)) ∧ (L k1 = true → w.heap.size ≤ g.1 ∧ g.1 < w'.heap.size ∧ Blk w' g.1 t1 (if L s1 then vs.1 else cs1)) ∧ (L k2 = true → w.heap.size ≤ g.2 ∧ g.2 < w'.heap.size ∧ Blk w' g.2 t2 (if L s2 then vs.2 else cs2)) ∧ (L k1 = true → L k2 = true → g.1 ≠ g.2))
    qs [k1, k2, s1, s2] (0, 0) hm hB hd ⟨⟨fun h => (by cases h), fun h => (by cases h)⟩, fun h => (by cases h), fun h => (by cases h), fun h => (by cases h)⟩
    (fun L g w1 w2 h1 hE h2 => ⟨h1.trans (h2.mono h1.size), hE.1, fun hL => ?_, fun hL => ?_, hE.2.2.2⟩) (fun L L' g w1 hl hE => ?_) (wpMild_mono (fun aq haq => ⟨fun i hi o ho L g w1 hC hE hLi hdep => ?_, fun L g w' hall hC hE => ?_⟩) qs a h)
  · obtain ⟨e1, e2, e3⟩ := hE.2.1 hL
    exact ⟨e1, Nat.lt_of_lt_of_le e2 h2.size, e3.below h2⟩
  · obtain ⟨e1, e2, e3⟩ := hE.2.2.1 hL
    exact ⟨e1, Nat.lt_of_lt_of_le e2 h2.size, e3.below h2⟩
  · rw [hl k1 (by simp), hl k2 (by simp), hl s1 (by simp), hl s2 (by simp)]
    exact hE
  · obtain ⟨hev, ⟨hz1, hc1⟩, ⟨hz2, hc2⟩, _⟩ := haq
    obtain ⟨⟨i1, i2⟩, hE1, hE2, hE3⟩ := hE
    rw [hlp]
    have hcase : i = k1 ∨ i = k2 ∨ i = s1 ∨ i = s2 := by simpa using hi
    rcases hcase with rfl | rfl | rfl | rfl
    · rw [hk1] at ho
      injection ho with ho
      subst ho
      rw [ha1]
      have hLs : L s1 = false := by
        rw [← Bool.not_eq_true]
        intro hh
        rw [i1 hh] at hLi
        cases hLi
      refine ⟨(w1.heap.size, g.2), by simp, fun j hj hLj => ?_, hC.alloc hC.size _, ⟨fun _ => by simp, fun hh => ?_⟩, fun _ => ⟨hC.size, by simp, ?_⟩, fun hh => ?_, fun _ hh => ?_⟩
      · have : j ≠ i := fun e => by rw [e, hLi] at hLj; cases hLj
        simp [this]
      · have hn : ¬ s2 = i := fun e => n14 e.symm
        have hn' : ¬ k2 = i := fun e => n12 e.symm
        simp [hn] at hh
        simp [i2 hh]
      · have hn : (s1 == i) = false := by simpa using fun e : s1 = i => n13 e.symm
        simp only [hLs, hn, Bool.or_self, Bool.false_eq_true, if_false]
        exact Blk.new w1 _ _
      · have hn : (s2 == i) = false := by simpa using fun e : s2 = i => n14 e.symm
        have hn' : (k2 == i) = false := by simpa using fun e : k2 = i => n12 e.symm
        simp only [hn', Bool.or_false] at hh
        obtain ⟨e1, e2, e3⟩ := hE2 hh
        simp only [hn, Bool.or_false]
        exact ⟨e1, by simp; omega, e3.alloc _⟩
      · have hn' : (k2 == i) = false := by simpa using fun e : k2 = i => n12 e.symm
        simp only [hn', Bool.or_false] at hh
        have := (hE2 hh).2.1
        simp; omega
    · rw [hk2] at ho
      injection ho with ho
      subst ho
      rw [ha2]
      have hLs : L s2 = false := by
        rw [← Bool.not_eq_true]
        intro hh
        rw [i2 hh] at hLi
        cases hLi
      have m1 : (k1 == i) = false := by simpa using n12
      refine ⟨(g.1, w1.heap.size), by simp [Ne.symm n12], fun j hj hLj => ?_, hC.alloc hC.size _, ⟨fun hh => ?_, fun _ => by simp⟩, fun hh => ?_, fun _ => ⟨hC.size, by simp, ?_⟩, fun hh _ => ?_⟩
      · have : j ≠ i := fun e => by rw [e, hLi] at hLj; cases hLj
        simp [this]
      · have hn : ¬ s1 = i := fun e => n23 e.symm
        simp [hn] at hh
        simp [i1 hh]
      · have hn : (s1 == i) = false := by simpa using fun e : s1 = i => n23 e.symm
        simp only [m1, Bool.or_false] at hh
        obtain ⟨e1, e2, e3⟩ := hE1 hh
        simp only [hn, Bool.or_false]
        exact ⟨e1, by simp; omega, e3.alloc _⟩
      · have hn : (s2 == i) = false := by simpa using fun e : s2 = i => n24 e.symm
        simp only [hLs, hn, Bool.or_self, Bool.false_eq_true, if_false]
        exact Blk.new w1 _ _
      · simp only [m1, Bool.or_false] at hh
        have := (hE1 hh).2.1
        simp; omega
    · rw [hs1] at ho
      injection ho with ho
      subst ho
      have hLk : L k1 = true := hdep k1 hw1
      obtain ⟨e1, e2, e3⟩ := hE1 hLk
      rw [hLi] at e3
      simp only [Bool.false_eq_true, if_false] at e3
      have m1 : (k1 == i) = false := by simpa using n13
      have m2 : (k2 == i) = false := by simpa using n23
      have m3 : (s2 == i) = false := by simpa using fun e : s2 = i => n34 e.symm
      refine late_store ty1 x1 y1 hop1 g.1 vs.1 cs1 t1 (hev g.1 g.2).1.1 (hev g.1 g.2).1.2 e3 hz1 (by rw [← hz1]; exact hinfo1) hc1 fun w2 hg hb => ?_
      refine ⟨g, by simp [Ne.symm n13, Ne.symm n23], fun _ _ _ => rfl, hC.grown hg hC.size (fun k' hk' => by injection hk' with hk'; omega), ⟨fun _ => by simp [hLk], fun hh => ?_⟩, fun _ => ⟨e1, Nat.lt_of_lt_of_le e2 hg.size, ?_⟩, fun hh => ?_, fun hh1 hh2 => ?_⟩
      · simp only [m3, Bool.or_false] at hh
        simp only [m2, Bool.or_false]
        exact i2 hh
      · show Blk _ _ _ _
        simpa [Blk] using hb
      · simp only [m2, Bool.or_false] at hh
        obtain ⟨q1, q2, q3⟩ := hE2 hh
        simp only [m3, Bool.or_false]
        exact ⟨q1, Nat.lt_of_lt_of_le q2 hg.size, q3.past hg (Ne.symm (hE3 hLk hh))⟩
      · simp only [m2, Bool.or_false] at hh2
        exact hE3 hLk hh2
    · rw [hs2] at ho
      injection ho with ho
      subst ho
      have hLk : L k2 = true := hdep k2 hw2
      obtain ⟨e1, e2, e3⟩ := hE2 hLk
      rw [hLi] at e3
      simp only [Bool.false_eq_true, if_false] at e3
      have m1 : (k1 == i) = false := by simpa using n14
      have m2 : (k2 == i) = false := by simpa using n24
      have m3 : (s1 == i) = false := by simpa using n34
      refine late_store ty2 x2 y2 hop2 g.2 vs.2 cs2 t2 (hev g.1 g.2).2.1 (hev g.1 g.2).2.2 e3 hz2 (by rw [← hz2]; exact hinfo2) hc2 fun w2 hg hb => ?_
      refine ⟨g, by simp [Ne.symm n14, Ne.symm n24], fun _ _ _ => rfl, hC.grown hg hC.size (fun k' hk' => by injection hk' with hk'; omega), ⟨fun hh => ?_, fun _ => by simp [hLk]⟩, fun hh => ?_, fun _ => ⟨e1, Nat.lt_of_lt_of_le e2 hg.size, ?_⟩, fun hh1 hh2 => ?_⟩
      · simp only [m3, Bool.or_false] at hh
        simp only [m1, Bool.or_false]
        exact i1 hh
      · simp only [m1, Bool.or_false] at hh
        obtain ⟨q1, q2, q3⟩ := hE1 hh
        simp only [m3, Bool.or_false]
        exact ⟨q1, Nat.lt_of_lt_of_le q2 hg.size, q3.past hg (hE3 hh hLk)⟩
      · show Blk _ _ _ _
        simpa [Blk] using hb
      · simp only [m1, Bool.or_false] at hh1
        exact hE3 hh1 hLk
  · obtain ⟨hev, _, _, hfin⟩ := haq
    have b1 : k1 < l.toArray.size := (Array.getElem?_eq_some_iff.1 hk1).1
    have b2 : k2 < l.toArray.size := (Array.getElem?_eq_some_iff.1 hk2).1
    have b3 : s1 < l.toArray.size := (Array.getElem?_eq_some_iff.1 hs1).1
    have b4 : s2 < l.toArray.size := (Array.getElem?_eq_some_iff.1 hs2).1
    obtain ⟨_, hE1, hE2, hE3⟩ := hE
    obtain ⟨p1, p2, p3⟩ := hE1 (hall k1 b1)
    obtain ⟨q1, q2, q3⟩ := hE2 (hall k2 b2)
    rw [hall s1 b3] at p3
    rw [hall s2 b4] at q3
    rw [hlp]
    exact hfin g.1 g.2 w' p1 q1 (hE3 (hall k1 b1) (hall k2 b2)) hC (by simpa using p3) (by simpa using q3)
end
end Go.Proofs.Ytonkblhajbphmaa
