/- Regions that draw their order: one walk serves every order where operations only read, or call functions that lay blocks and return values; and a few late operations that make memory. No program in sight. Conditions: as each theorem says. -/
import Derived.Orders
import Derived.Deep.QuietTactic
import Derived.Below
import Derived.Deep.MidRow
namespace Go.Proofs.Ytonkblhajbphmaa
set_option linter.unusedVariables false
open Go Go.RowKit

section
variable {P : Program} {ops : Array Oper} {md : Region.Mode} {C : World → Prop}

/-- In every world of the class the operation yields v; a call may lay blocks. -/
def MildAt (P : Program) (C : World → Prop) (o : Oper) (a : Act) (v : Value) : Prop :=
  ∀ w, C w → o.quietAt P a (fun w'' => Below w.heap.size w w'') w v

/-- The walk of the quiet operations, in the order of the list. -/
def wpMild (P : Program) (ops : Array Oper) (C : World → Prop) (Q : Act → Prop) : List Nat → Act → Prop
  | [], a => Q a
  | i :: rest, a => ∀ o, ops[i]? = some o → (Region.wanted o (yielded ops a.tmps) = true ∧ ∃ v, MildAt P C o a v ∧ wpMild P ops C Q rest (a.put o.dst v)) ∨
      (Region.wanted o (yielded ops a.tmps) = false ∧ wpMild P ops C Q rest (a.put o.dst undef))

theorem wpMild_nil {Q : Act → Prop} {a : Act} (h : Q a) : wpMild P ops C Q [] a := h
theorem wpMild_take {Q : Act → Prop} {a : Act} {i : Nat} {rest : List Nat} (o : Oper) (ho : ops[i]? = some o) (hw : Region.wanted o (yielded ops a.tmps) = true)
    (h : ∃ v, (∀ w, C w → o.quietAt P a (fun w'' => Below w.heap.size w w'') w v) ∧ wpMild P ops C Q rest (a.put o.dst v)) : wpMild P ops C Q (i :: rest) a :=
  fun o' ho' => by
    rw [ho] at ho'
    injection ho' with ho'
    subst ho'
    exact .inl ⟨hw, h⟩
theorem wpMild_skip {Q : Act → Prop} {a : Act} {i : Nat} {rest : List Nat} (o : Oper) (ho : ops[i]? = some o) (hw : Region.wanted o (yielded ops a.tmps) = false)
    (h : wpMild P ops C Q rest (a.put o.dst undef)) : wpMild P ops C Q (i :: rest) a :=
  fun o' ho' => by
    rw [ho] at ho'
    injection ho' with ho'
    subst ho'
    exact .inr ⟨hw, h⟩

theorem wpMild_mono {Q Q' : Act → Prop} (hQ : ∀ a, Q a → Q' a) : ∀ (qs : List Nat) (a : Act), wpMild P ops C Q qs a → wpMild P ops C Q' qs a
  | [], a, h => hQ a h
  | i :: rest, a, h => fun o ho => by
    rcases h o ho with ⟨hw, v, hv, hr⟩ | ⟨hw, hr⟩
    · exact .inl ⟨hw, v, hv, wpMild_mono hQ rest _ hr⟩
    · exact .inr ⟨hw, wpMild_mono hQ rest _ hr⟩
theorem wpMild_exists {α : Type} [Inhabited α] {Q : α → Act → Prop} : ∀ (qs : List Nat) (a : Act), wpMild P ops C (fun b => ∃ x, Q x b) qs a → ∃ x, wpMild P ops C (Q x) qs a
  | [], a, h => h
  | i :: rest, a, h => by
    cases ho : ops[i]? with
    | none => exact ⟨default, fun o ho' => by rw [ho] at ho'; cases ho'⟩
    | some o =>
      rcases h o ho with ⟨hw, v, hv, hr⟩ | ⟨hw, hr⟩
      · obtain ⟨x, hx⟩ := wpMild_exists rest _ hr
        exact ⟨x, fun o' ho' => by rw [ho] at ho'; injection ho' with ho'; subst ho'; exact .inl ⟨hw, v, hv, hx⟩⟩
      · obtain ⟨x, hx⟩ := wpMild_exists rest _ hr
        exact ⟨x, fun o' ho' => by rw [ho] at ho'; injection ho' with ho'; subst ho'; exact .inr ⟨hw, hx⟩⟩

/-- The same over the written-out list: a mark 'true' for a quiet operation, 'false' for a late one. -/
def wpMildL (P : Program) (ops : Array Oper) (C : World → Prop) (Q : Act → Prop) : List Oper → List Bool → Act → Prop
  | o :: l, true :: bs, a => (Region.wanted o (yielded ops a.tmps) = true ∧ ∃ v, (∀ w, C w → o.quietAt P a (fun w'' => Below w.heap.size w w'') w v) ∧ wpMildL P ops C Q l bs (a.put o.dst v)) ∨
      (Region.wanted o (yielded ops a.tmps) = false ∧ wpMildL P ops C Q l bs (a.put o.dst undef))
  | _ :: l, false :: bs, a => wpMildL P ops C Q l bs a
  | [], [], a => Q a
  | _, _, _ => False
theorem wpMildL_nil {Q : Act → Prop} {a : Act} (h : Q a) : wpMildL P ops C Q [] [] a := h
theorem wpMildL_late {Q : Act → Prop} {a : Act} {o : Oper} {l : List Oper} {bs : List Bool} (h : wpMildL P ops C Q l bs a) : wpMildL P ops C Q (o :: l) (false :: bs) a := h
theorem wpMildL_take {Q : Act → Prop} {a : Act} {o : Oper} {l : List Oper} {bs : List Bool} (hw : Region.wanted o (yielded ops a.tmps) = true)
    (h : ∃ v, (∀ w, C w → o.quietAt P a (fun w'' => Below w.heap.size w w'') w v) ∧ wpMildL P ops C Q l bs (a.put o.dst v)) : wpMildL P ops C Q (o :: l) (true :: bs) a := .inl ⟨hw, h⟩
theorem wpMildL_skip {Q : Act → Prop} {a : Act} {o : Oper} {l : List Oper} {bs : List Bool} (hw : Region.wanted o (yielded ops a.tmps) = false)
    (h : wpMildL P ops C Q l bs (a.put o.dst undef)) : wpMildL P ops C Q (o :: l) (true :: bs) a := .inr ⟨hw, h⟩
def idxs : List Bool → Nat → List Nat
  | [], _ => []
  | true :: bs, n => n :: idxs bs (n + 1)
  | false :: bs, n => idxs bs (n + 1)
theorem wpMild_of_list {Q : Act → Prop} : ∀ (l : List Oper) (bs : List Bool) (n : Nat) (a : Act), (∀ j, l[j]? = ops[n + j]?) → wpMildL P ops C Q l bs a → wpMild P ops C Q (idxs bs n) a
  | [], [], _, _, _, h => h
  | o :: l, true :: bs, n, a, hl, h => fun o' ho' => by
    have h0 : ops[n]? = some o := by simpa using (hl 0).symm
    rw [h0] at ho'
    injection ho' with ho'
    subst ho'
    have hl' : ∀ j, l[j]? = ops[n + 1 + j]? := fun j => by have := hl (j + 1); simpa [Nat.add_assoc, Nat.add_comm 1 j] using this
    rcases h with ⟨hw, v, hv, hr⟩ | ⟨hw, hr⟩
    · exact .inl ⟨hw, v, hv, wpMild_of_list l bs (n + 1) _ hl' hr⟩
    · exact .inr ⟨hw, wpMild_of_list l bs (n + 1) _ hl' hr⟩
  | o :: l, false :: bs, n, a, hl, h => wpMild_of_list l bs (n + 1) a (fun j => by have := hl (j + 1); simpa [Nat.add_assoc, Nat.add_comm 1 j] using this) h
  | [], _ :: _, _, _, _, h => by cases h
  | _ :: _, [], _, _, _, h => by cases h

/-- j makes a temporary that o looks at. -/
def feeds (ops : Array Oper) (j : Nat) (o : Oper) : Bool :=
  match ops[j]? with
  | none => false
  | some oj => match oj.dst with
    | none => false
    | some d => (o.looksAt ops).contains d

def waitsB (md : Region.Mode) (o : Oper) (j : Nat) : Bool := o.after.any fun e => Region.binds md e && e.on == j

def opB (md : Region.Mode) (ops : Array Oper) (i : Nat) (o : Oper) : Bool :=
  (List.range ops.size).all (fun j => (!(feeds ops j o) || waitsB md o j) &&
    (i == j || (match ops[j]? with | none => true | some oj => match oj.dst with | none => true | some d => o.dst != some d))) &&
  o.after.all (fun e => !(Region.binds md e) || decide (e.on < i))

def seenB (ops : Array Oper) : List Nat → List Nat → Bool
  | _, [] => true
  | seen, i :: rest => (match ops[i]? with | none => false | some o => (List.range ops.size).all fun j => !(feeds ops j o) || seen.contains j) && seenB ops (i :: seen) rest

def nodupB : List Nat → Bool
  | [] => true
  | i :: rest => !rest.contains i && nodupB rest

/-- The static conditions: qs: the quiet operations, ls: the late ones. -/
def mildB (md : Region.Mode) (ops : Array Oper) (qs ls : List Nat) : Bool :=
  Region.noSelect ops && ((List.range ops.size).all fun i => match ops[i]? with | none => true | some o => opB md ops i o) &&
  ((List.range ops.size).all fun i => qs.contains i || ls.contains i) && nodupB (qs ++ ls) && seenB ops [] qs &&
  (ls.all fun i => match ops[i]? with | none => false | some o => o.guard.isNone)

/-- A frame that bears the values V at the temporaries of the operations that are listed, and is a0 elsewhere. -/
structure Agrees (ops : Array Oper) (V : Nat → Value) (a0 : Act) (L : Nat → Bool) (a : Act) : Prop where
  frame : a = { a0 with tmps := a.tmps }
  size : a.tmps.size = a0.tmps.size
  at_ : ∀ (i : Nat) (o : Oper) (t : Tmp), ops[i]? = some o → o.dst = some t → L i = true → t < a0.tmps.size → a.tmps[t]? = some (V i)
  else_ : ∀ (t : Tmp), (∀ (i : Nat) (o : Oper), ops[i]? = some o → o.dst = some t → L i = false) → a.tmps[t]? = a0.tmps[t]?

theorem Agrees.start (ops : Array Oper) (V : Nat → Value) (a0 : Act) : Agrees ops V a0 (fun _ => false) a0 :=
  ⟨rfl, rfl, (fun _ _ _ _ _ h => by cases h), fun _ _ => rfl⟩

theorem Agrees.congr {V V' : Nat → Value} {a0 a : Act} {L L' : Nat → Bool} (h : Agrees ops V a0 L a) (hL : ∀ i, i < ops.size → L' i = L i) (hV : ∀ i, L i = true → V' i = V i) : Agrees ops V' a0 L' a := by
  refine ⟨h.frame, h.size, fun i o t ho hd hi ht => ?_, fun t ht => h.else_ t fun i o ho hd => ?_⟩
  · have hlt := (Array.getElem?_eq_some_iff.1 ho).1
    rw [hL i hlt] at hi
    rw [hV i hi]
    exact h.at_ i o t ho hd hi ht
  · have hlt := (Array.getElem?_eq_some_iff.1 ho).1
    rw [← hL i hlt]
    exact ht i o ho hd

def distinct (ops : Array Oper) : Prop := ∀ (i j : Nat) (oi oj : Oper) (t : Tmp), ops[i]? = some oi → ops[j]? = some oj → oi.dst = some t → oj.dst = some t → i = j

theorem Agrees.put {V : Nat → Value} {a0 a : Act} {L : Nat → Bool} (hdis : distinct ops) (h : Agrees ops V a0 L a) {i : Nat} {o : Oper} (ho : ops[i]? = some o) :
    Agrees ops V a0 (fun j => L j || j == i) (a.put o.dst (V i)) := by
  cases hd : o.dst with
  | none =>
    refine ⟨h.frame, h.size, fun j oj t hoj hdj hj ht => ?_, fun t ht => h.else_ t fun j oj hoj hdj => ?_⟩
    · rcases Bool.or_eq_true _ _ |>.mp hj with hj | hj
      · exact h.at_ j oj t hoj hdj hj ht
      · obtain rfl := by simpa using hj
        rw [ho] at hoj
        injection hoj with hoj
        subst hoj
        rw [hd] at hdj
        cases hdj
    · have := ht j oj hoj hdj
      simp only [Bool.or_eq_false_iff] at this
      exact this.1
  | some d =>
    refine ⟨?_, ?_, fun j oj t hoj hdj hj ht => ?_, fun t ht => ?_⟩
    · have := h.frame
      simp only [Act.put]
      rw [this]
    · simp [Act.put, h.size]
    · by_cases hjd : t = d
      · subst hjd
        obtain rfl := hdis i j o oj t ho hoj hd hdj
        simp [Act.put, h.size, ht]
      · have hji : j ≠ i := fun e => by
          subst e
          rw [ho] at hoj
          injection hoj with hoj
          subst hoj
          rw [hd] at hdj
          injection hdj with hdj
          exact hjd hdj.symm
        have hj' : L j = true := by simpa [hji] using hj
        simp only [Act.put]
        rw [Array.getElem?_setIfInBounds_ne (Ne.symm hjd)]
        exact h.at_ j oj t hoj hdj hj' ht
    · have hne : d ≠ t := fun e => by
        subst e
        have := ht i o ho hd
        simp at this
      simp only [Act.put]
      rw [Array.getElem?_setIfInBounds_ne hne]
      refine h.else_ t fun j oj hoj hdj => ?_
      have := ht j oj hoj hdj
      simp only [Bool.or_eq_false_iff] at this
      exact this.1

theorem Agrees.ext {V : Nat → Value} {a0 a a' : Act} {L : Nat → Bool} (h : Agrees ops V a0 L a) (h' : Agrees ops V a0 L a') : a = a' := by
  have e : a.tmps = a'.tmps := by
    apply Array.ext_getElem?
    intro t
    by_cases hx : ∃ (i : Nat) (o : Oper), ops[i]? = some o ∧ o.dst = some t ∧ L i = true
    · obtain ⟨i, o, ho, hd, hi⟩ := hx
      by_cases ht : t < a0.tmps.size
      · rw [h.at_ i o t ho hd hi ht, h'.at_ i o t ho hd hi ht]
      · rw [Array.getElem?_eq_none (by rw [h.size]; exact Nat.le_of_not_lt (by assumption)), Array.getElem?_eq_none (by rw [h'.size]; exact Nat.le_of_not_lt (by assumption))]
    · have hn : ∀ (i : Nat) (o : Oper), ops[i]? = some o → o.dst = some t → L i = false := fun i o ho hd => by
        rw [← Bool.not_eq_true]
        exact fun hi => hx ⟨i, o, ho, hd, hi⟩
      rw [h.else_ t hn, h'.else_ t hn]
  rw [h.frame, h'.frame, e]

/-- Two frames that bear the same at what o looks at. -/
theorem Agrees.tmp {V V' : Nat → Value} {a0 a a' : Act} {L L' : Nat → Bool} {o : Oper} (h : Agrees ops V a0 L a) (h' : Agrees ops V' a0 L' a')
    (hf : ∀ j, feeds ops j o = true → L j = true ∧ L' j = true ∧ V j = V' j) (t : Tmp) (ht : t ∈ o.looksAt ops) : a.tmps[t]? = a'.tmps[t]? := by
  have hfe : ∀ (j : Nat) (oj : Oper), ops[j]? = some oj → oj.dst = some t → feeds ops j o = true := fun j oj hoj hdj => by
    unfold feeds
    rw [hoj]
    simp only [hdj]
    simpa using ht
  by_cases hx : ∃ (i : Nat) (oi : Oper), ops[i]? = some oi ∧ oi.dst = some t
  · obtain ⟨i, oi, ho, hd⟩ := hx
    obtain ⟨l1, l2, e⟩ := hf i (hfe i oi ho hd)
    by_cases hs : t < a0.tmps.size
    · rw [h.at_ i oi t ho hd l1 hs, h'.at_ i oi t ho hd l2 hs, e]
    · rw [Array.getElem?_eq_none (by rw [h.size]; exact Nat.le_of_not_lt (by assumption)), Array.getElem?_eq_none (by rw [h'.size]; exact Nat.le_of_not_lt (by assumption))]
  · rw [h.else_ t fun i oi ho hd => absurd ⟨i, oi, ho, hd⟩ hx, h'.else_ t fun i oi ho hd => absurd ⟨i, oi, ho, hd⟩ hx]

theorem exec_same {o : Oper} {a a' : Act} (hs : ∀ cs b, o.op ≠ .select cs b) (h : ∀ t ∈ o.looksAt ops, a.tmps[t]? = a'.tmps[t]?) : execOp a.eval o = execOp a'.eval o :=
  execOp_congr o hs fun x hx => by
    cases x with
    | tmp t =>
      have := h t (List.mem_append_left _ (List.mem_filterMap.2 ⟨.tmp t, by simpa using hx, rfl⟩))
      simp only [Act.eval, Array.getD_eq_getD_getElem?, this]
    | _ => rfl

theorem wanted_same {o : Oper} {a a' : Act} (h : ∀ t ∈ o.looksAt ops, a.tmps[t]? = a'.tmps[t]?) : Region.wanted o (yielded ops a.tmps) = Region.wanted o (yielded ops a'.tmps) := by
  unfold Region.wanted
  cases hg : o.guard with
  | none => rfl
  | some gw =>
    obtain ⟨g, want⟩ := gw
    have hy : yielded ops a.tmps g = yielded ops a'.tmps g := by
      unfold yielded
      cases ht : (ops[g]?).bind (·.dst) with
      | none => rfl
      | some t =>
        have := h t (by simp [Oper.looksAt, hg, ht])
        simp only [Option.bind_some, this]
    simp only [hy]

/-- What a quiet operation does at a frame. -/
def Does (P : Program) (ops : Array Oper) (C : World → Prop) (o : Oper) (v : Value) (a : Act) : Prop :=
  (Region.wanted o (yielded ops a.tmps) = true ∧ MildAt P C o a v) ∨ (Region.wanted o (yielded ops a.tmps) = false ∧ v = undef)

theorem Does.same {o : Oper} {v : Value} {a a' : Act} (hs : ∀ cs b, o.op ≠ .select cs b) (h : ∀ t ∈ o.looksAt ops, a.tmps[t]? = a'.tmps[t]?) (hd : Does P ops C o v a) : Does P ops C o v a' := by
  unfold Does MildAt Oper.quietAt at *
  rw [← exec_same hs h, ← wanted_same h]
  exact hd

theorem nodupB_cons {i : Nat} {l : List Nat} (h : nodupB (i :: l) = true) : i ∉ l ∧ nodupB l = true := by
  simp only [nodupB, Bool.and_eq_true] at h
  exact ⟨by simpa using h.1, h.2⟩
theorem nodupB_append {l r : List Nat} (h : nodupB (l ++ r) = true) : nodupB l = true ∧ nodupB r = true ∧ ∀ i ∈ l, i ∉ r := by
  induction l with
  | nil => exact ⟨rfl, h, fun _ h => by cases h⟩
  | cons i l ih =>
    obtain ⟨h1, h2⟩ := nodupB_cons h
    obtain ⟨h3, h4, h5⟩ := ih h2
    refine ⟨?_, h4, fun j hj => ?_⟩
    · simp only [nodupB, Bool.and_eq_true]
      exact ⟨by simpa using fun hh => h1 (List.mem_append_left _ hh), h3⟩
    · cases hj with
      | head => exact fun hh => h1 (List.mem_append_right _ hh)
      | tail _ hj => exact h5 j hj

theorem feeds_lt {j : Nat} {o : Oper} (h : feeds ops j o = true) : j < ops.size := by
  unfold feeds at h
  split at h
  · cases h
  · next oj hoj => exact (Array.getElem?_eq_some_iff.1 hoj).1

/-- What the quiet walk has shown. -/
theorem extract {Q : Act → Prop} {a0 : Act} (hdis : distinct ops) (hsel : Region.noSelect ops = true) : ∀ (qs seen : List Nat) (V : Nat → Value) (a : Act), Agrees ops V a0 (fun j => seen.contains j) a →
    (∀ i ∈ qs, i ∉ seen) → nodupB qs = true → seenB ops seen qs = true → wpMild P ops C Q qs a →
    ∃ (V' : Nat → Value) (aq : Act), (∀ j, seen.contains j = true → V' j = V j) ∧ Agrees ops V' a0 (fun j => seen.contains j || qs.contains j) aq ∧ Q aq ∧
      ∀ i ∈ qs, ∀ o, ops[i]? = some o → ∀ (L : Nat → Bool) (a' : Act), Agrees ops V' a0 L a' → (∀ j, feeds ops j o = true → L j = true) → Does P ops C o (V' i) a'
  | [], seen, V, a, hA, _, _, _, h => ⟨V, a, fun _ _ => rfl, hA.congr (fun i _ => by simp) (fun _ _ => rfl), h, fun i hi => by cases hi⟩
  | i :: rest, seen, V, a, hA, hns, hnd, hseen, h => by
    obtain ⟨hnr, hnd'⟩ := nodupB_cons hnd
    have hi : i ∉ seen := hns i (List.mem_cons_self ..)
    cases ho : ops[i]? with
    | none => simp [seenB, ho] at hseen
    | some o =>
      simp only [seenB, ho, Bool.and_eq_true] at hseen
      obtain ⟨hf, hseen'⟩ := hseen
      have hfeeds : ∀ j, feeds ops j o = true → seen.contains j = true := fun j hj => by
        have := List.all_eq_true.1 hf j (List.mem_range.2 (feeds_lt hj))
        simpa [hj] using this
      have key : ∃ v, Does P ops C o v a ∧ wpMild P ops C Q rest (a.put o.dst v) := by
        rcases h o ho with ⟨hw, v, hv, hr⟩ | ⟨hw, hr⟩
        · exact ⟨v, .inl ⟨hw, hv⟩, hr⟩
        · exact ⟨undef, .inr ⟨hw, rfl⟩, hr⟩
      obtain ⟨v, hv, hr⟩ := key
      let V1 : Nat → Value := fun j => if j = i then v else V j
      have e1 : V1 i = v := by simp [V1]
      have hA1 : Agrees ops V1 a0 (fun j => seen.contains j) a := hA.congr (fun _ _ => rfl) fun j hj => by
        have : j ≠ i := fun e => by subst e; exact hi (by simpa using hj)
        simp [V1, this]
      have hA2 := hA1.put hdis ho
      rw [e1] at hA2
      have hA3 : Agrees ops V1 a0 (fun j => (i :: seen).contains j) (a.put o.dst v) := hA2.congr (fun j _ => by rw [List.contains_cons, Bool.or_comm]) (fun _ _ => rfl)
      obtain ⟨V', aq, hV', hAq, hQ, hfacts⟩ := extract hdis hsel rest (i :: seen) V1 _ hA3 (fun j hj hm => by
        cases hm with
        | head => exact hnr hj
        | tail _ hm => exact hns j (List.mem_cons_of_mem _ hj) hm) hnd' hseen' hr
      have hseenV : ∀ j, seen.contains j = true → V' j = V j := fun j hj => by
        have hne : j ≠ i := fun e => by subst e; exact hi (by simpa using hj)
        rw [hV' j (by rw [List.contains_cons, hj]; simp)]
        simp [V1, hne]
      refine ⟨V', aq, hseenV, hAq.congr (fun j _ => ?_) (fun _ _ => rfl), hQ, fun j hj oj hoj L a' hL hd => ?_⟩
      · simp only [List.contains_cons]
        cases (j == i) <;> cases (seen.contains j) <;> cases (rest.contains j) <;> rfl
      · cases hj with
        | head =>
          rw [ho] at hoj
          injection hoj with hoj
          subst hoj
          have e2 : V' i = v := by rw [hV' i (by simp), e1]
          rw [e2]
          exact hv.same (fun cs b => Region.noSelect_spec hsel i o cs b ho) (Agrees.tmp hA hL fun k hk => ⟨hfeeds k hk, hd k hk, (hseenV k (hfeeds k hk)).symm⟩)
        | tail _ hj => exact hfacts j hj oj hoj L a' hL hd

/-- The late operations' values, put. -/
def lateput (ops : Array Oper) (U : Nat → Value) : List Nat → Act → Act
  | [], a => a
  | i :: rest, a => lateput ops U rest (a.put ((ops[i]?).bind (·.dst)) (U i))

theorem Agrees.late {V : Nat → Value} {a0 : Act} (hdis : distinct ops) : ∀ (ls : List Nat) (L : Nat → Bool) (a : Act), (∀ i ∈ ls, ∃ o, ops[i]? = some o) → Agrees ops V a0 L a →
    Agrees ops V a0 (fun j => L j || ls.contains j) (lateput ops V ls a)
  | [], L, a, _, h => h.congr (fun i _ => by simp) (fun _ _ => rfl)
  | i :: rest, L, a, hl, h => by
    obtain ⟨o, ho⟩ := hl i (List.mem_cons_self ..)
    have h1 := h.put hdis ho
    have h2 := Agrees.late hdis rest _ _ (fun j hj => hl j (List.mem_cons_of_mem _ hj)) h1
    simp only [lateput, ho, Option.bind_some]
    refine h2.congr (fun j _ => ?_) (fun _ _ => rfl)
    simp only [List.contains_cons]
    cases (L j) <;> cases (j == i) <;> cases (rest.contains j) <;> rfl

theorem lateput_congr {U U' : Nat → Value} : ∀ (ls : List Nat) (a : Act), (∀ i ∈ ls, U i = U' i) → lateput ops U ls a = lateput ops U' ls a
  | [], _, _ => rfl
  | i :: rest, a, h => by
    simp only [lateput, h i (List.mem_cons_self ..)]
    exact lateput_congr rest _ fun j hj => h j (List.mem_cons_of_mem _ hj)

/-- What is asked of a late operation's outcome. -/
def LateUponD (P : Program) (R : Value → World → Prop) : Result Next → Prop
  | .ok (.value u) w' => R u w'
  | .ok .skip w' => R undef w'
  | .ok (.enter f args) w' => Calls P f args w' fun e w'' => ∃ u, e = .returned u ∧ R u w''
  | _ => False
/-- The same, closed: so that nothing looks into the run by itself. -/
structure LateUpon (P : Program) (R : Value → World → Prop) (r : Result Next) : Prop where
  out : LateUponD P R r

theorem late_value {R : Value → World → Prop} {r : Result Next} {u : Value} {w' : World} (h : r = .ok (.value u) w') (hR : R u w') : LateUpon P R r := ⟨by rw [h]; exact hR⟩
theorem late_call {R : Value → World → Prop} {r : Result Next} {f : FuncId} {args : Array Value} {w' : World} (h : r = .ok (.enter f args) w') (hR : Calls P f args w' fun e w'' => ∃ u, e = .returned u ∧ R u w'') : LateUpon P R r := ⟨by rw [h]; exact hR⟩

theorem opB_spec (h : ((List.range ops.size).all fun i => match ops[i]? with | none => true | some o => opB md ops i o) = true) :
    distinct ops ∧ (∀ (i : Nat) (o : Oper), ops[i]? = some o → ∀ j, feeds ops j o = true → waitsB md o j = true) ∧ (∀ (i : Nat) (o : Oper), ops[i]? = some o → ∀ e ∈ o.after, Region.binds md e = true → e.on < i) := by
  have h1 : ∀ (i : Nat) (o : Oper), ops[i]? = some o → opB md ops i o = true := fun i o ho => by
    have := List.all_eq_true.1 h i (List.mem_range.2 (Array.getElem?_eq_some_iff.1 ho).1)
    simpa [ho] using this
  refine ⟨fun i j oi oj t hi hj di dj => ?_, fun i o ho j hj => ?_, fun i o ho e he hb => ?_⟩
  · have := h1 i oi hi
    simp only [opB, Bool.and_eq_true] at this
    have := List.all_eq_true.1 this.1 j (List.mem_range.2 (Array.getElem?_eq_some_iff.1 hj).1)
    simp only [Bool.and_eq_true, hj, dj, di] at this
    simpa using this.2
  · have := h1 i o ho
    simp only [opB, Bool.and_eq_true] at this
    have := List.all_eq_true.1 this.1 j (List.mem_range.2 (feeds_lt hj))
    simp only [Bool.and_eq_true] at this
    simpa [hj] using this.1
  · have := h1 i o ho
    simp only [opB, Bool.and_eq_true] at this
    have := Array.all_eq_true_iff_forall_mem.1 this.2 e he
    simpa [hb] using this

theorem waits_listed {o : Oper} {listed : Array Bool} (h : ∀ e ∈ o.after, Region.binds md e = true → listed.getD e.on false = true) {j : Nat} (hj : waitsB md o j = true) : listed.getD j false = true := by
  unfold waitsB at hj
  rw [Array.any_eq_true'] at hj
  obtain ⟨e, he, hb⟩ := hj
  simp only [Bool.and_eq_true, beq_iff_eq] at hb
  have := h e he hb.1
  rwa [hb.2] at this

/-- Where nothing may come up, all have. -/
theorem all_listed (hacy : ∀ (i : Nat) (o : Oper), ops[i]? = some o → ∀ e ∈ o.after, Region.binds md e = true → e.on < i) {listed : Array Bool} (hz : listed.size = ops.size) (hr : Region.ready md ops listed = []) :
    ∀ i, i < ops.size → listed.getD i false = true := by
  intro i
  induction i using Nat.strongRecOn with
  | ind i ih =>
    intro hi
    rw [← Bool.not_eq_false]
    intro hf
    have hf' : listed.getD i true = false := by
      rw [Array.getD_eq_getD_getElem?, Array.getElem?_eq_getElem (by omega)] at hf ⊢
      simpa using hf
    have : i ∈ Region.ready md ops listed := mem_ready.2 ⟨hf', _, Array.getElem?_eq_getElem hi, fun e he hb => ih _ (hacy i _ (Array.getElem?_eq_getElem hi) e he hb) (Nat.lt_trans (hacy i _ (Array.getElem?_eq_getElem hi) e he hb) hi)⟩
    rw [hr] at this
    cases this

theorem getD_set (listed : Array Bool) (i j : Nat) (hi : i < listed.size) : (listed.setIfInBounds i true).getD j false = (listed.getD j false || j == i) := by
  by_cases h : j = i
  · subst h
    simp [Array.getD_eq_getD_getElem?, hi]
  · rw [getD_set_ne false (Ne.symm h)]
    simp [h]

theorem count_set (listed : Array Bool) (i : Nat) (hi : i < listed.size) (hf : listed.getD i true = false) : (listed.setIfInBounds i true).toList.count false + 1 = listed.toList.count false := by
  rw [Array.toList_setIfInBounds]
  have hl : i < listed.toList.length := by simpa using hi
  have hx : listed.toList[i] = false := by
    rw [Array.getD_eq_getD_getElem?, Array.getElem?_eq_getElem hi] at hf
    simpa using hf
  have hp : 0 < listed.toList.count false := List.count_pos_iff.2 (hx ▸ List.getElem_mem hl)
  have h1 := List.count_set (a := true) (b := false) hl
  rw [hx] at h1
  simp only [beq_self_eq_true, if_true] at h1
  rw [if_neg (by decide)] at h1
  omega

variable {γ : Type} {U : γ → Nat → Value} {E : (Nat → Bool) → γ → World → Prop} {Q : Exit → Act → World → Prop}

/-- **ONE WALK SERVES EVERY ORDER.** -/
theorem wp_region_mild {id : Nat} {a : Act} {w : World} (qs ls : List Nat) (g0 : γ) (hm : P.follows .mixedOrders = true) (hB : mildB .any ops qs ls = true)
    (hC0 : C { w with drawn := w.drawn + 1 }) (hE0 : E (fun _ => false) g0 { w with drawn := w.drawn + 1 })
    (hCE : ∀ L g w w', C w → E L g w → Below w.heap.size w w' → C w' ∧ E L g w')
    (hEL : ∀ L L' g w, (∀ i ∈ ls, L' i = L i) → E L g w → E L' g w)
    (h : wpMild P ops C (fun aq =>
      (∀ i ∈ ls, ∀ o, ops[i]? = some o → ∀ L g w, C w → E L g w → L i = false → (∀ j, waitsB .any o j = true → L j = true) →
        LateUpon P (fun u w' => ∃ g', U g' i = u ∧ (∀ j ∈ ls, L j = true → U g' j = U g j) ∧ C w' ∧ E (fun j => L j || j == i) g' w') ((execOp (lateput ops (U g) ls aq).eval o).run P w)) ∧
      ∀ L g w', (∀ i, i < ops.size → L i = true) → C w' → E L g w' → Q .normal (lateput ops (U g) ls aq) w') qs a) :
    (Code.region id ops true).wp P Q a w := by
  simp only [mildB, Bool.and_eq_true] at hB
  obtain ⟨⟨⟨⟨⟨hsel, hop⟩, hcov⟩, hnd⟩, hseen⟩, hlate⟩ := hB
  obtain ⟨hdis, hfw, hacy⟩ := opB_spec hop
  obtain ⟨hnq, hnl, hql⟩ := nodupB_append hnd
  have hlo : ∀ i ∈ ls, ∃ o, ops[i]? = some o ∧ o.guard = none := fun i hi => by
    have := List.all_eq_true.1 hlate i hi
    cases ho : ops[i]? with
    | none => simp [ho] at this
    | some o => exact ⟨o, rfl, by simpa [ho] using this⟩
  obtain ⟨V, aq, _, hAq, ⟨hL1, hL2⟩, hfacts⟩ := extract (a0 := a) hdis hsel qs [] (fun _ => undef) a ((Agrees.start ops _ a).congr (fun _ _ => by simp) (fun _ _ => rfl)) (fun _ _ => by simp) hnq hseen h
  let W : γ → Nat → Value := fun g i => if ls.contains i then U g i else V i
  have hWq : ∀ g i, i ∈ qs → W g i = V i := fun g i hi => by simp [W, hql i hi]
  have hWl : ∀ g i, i ∈ ls → W g i = U g i := fun g i hi => by simp [W, hi]
  have hfin : ∀ g, Agrees ops (W g) a (fun _ => true) (lateput ops (U g) ls aq) := fun g => by
    have h1 : Agrees ops (W g) a (fun j => qs.contains j) aq := hAq.congr (fun i _ => by simp) (fun i hi => hWq g i (by simpa using hi))
    have h2 := Agrees.late hdis ls _ _ (fun i hi => (hlo i hi).imp fun _ h => h.1) h1
    rw [lateput_congr (U := U g) (U' := W g) ls aq fun i hi => (hWl g i hi).symm]
    refine h2.congr (fun i hi => ?_) (fun _ _ => rfl)
    have := List.all_eq_true.1 hcov i (List.mem_range.2 hi)
    exact this.symm
  have main : ∀ (fuel : Nat) (listed : Array Bool) (g : γ) (b : Act) (w1 : World), listed.size = ops.size → listed.toList.count false = fuel →
      Agrees ops (W g) a (fun i => listed.getD i false) b → C w1 → E (fun i => listed.getD i false) g w1 → wpAny P .any ops Q fuel listed b w1 := by
    intro fuel
    induction fuel with
    | zero =>
      intro listed g b w1 hz hcnt hA hC hE
      have hall : ∀ i, i < ops.size → listed.getD i false = true := fun i hi => by
        rw [← Bool.not_eq_false]
        intro hf
        have : false ∈ listed.toList := by
          rw [Array.getD_eq_getD_getElem?, Array.getElem?_eq_getElem (by omega)] at hf
          simp only [Option.getD_some] at hf
          rw [← hf]
          simp
        exact absurd hcnt (Nat.ne_of_gt (List.count_pos_iff.2 this))
      refine ⟨?_, ?_⟩
      · rw [List.eq_nil_iff_forall_not_mem]
        intro i hi
        obtain ⟨h1, o, ho, _⟩ := mem_ready.1 hi
        have hlt := (Array.getElem?_eq_some_iff.1 ho).1
        have := hall i hlt
        rw [Array.getD_eq_getD_getElem?, Array.getElem?_eq_getElem (by omega)] at h1 this
        simp only [Option.getD_some] at h1 this
        rw [h1] at this
        cases this
      · have := (hA.congr (L' := fun _ => true) (fun i hi => (hall i hi).symm) (fun _ _ => rfl)).ext (hfin g)
        rw [this]
        exact hL2 _ g w1 hall hC hE
    | succ fuel ih =>
      intro listed g b w1 hz hcnt hA hC hE
      refine ⟨fun hr => ?_, fun i hi => ?_⟩
      · have hall := all_listed hacy hz hr
        have := (hA.congr (L' := fun _ => true) (fun i hi => (hall i hi).symm) (fun _ _ => rfl)).ext (hfin g)
        rw [this]
        exact hL2 _ g w1 hall hC hE
      · obtain ⟨hun, o, ho, hdeps⟩ := mem_ready.1 hi
        have hlt := (Array.getElem?_eq_some_iff.1 ho).1
        have hsi : ∀ cs b, o.op ≠ .select cs b := fun cs b => Region.noSelect_spec hsel i o cs b ho
        have hwl : ∀ j, waitsB .any o j = true → listed.getD j false = true := fun j hj => waits_listed hdeps hj
        have hfl : ∀ j, feeds ops j o = true → listed.getD j false = true := fun j hj => hwl j (hfw i o ho j hj)
        have hun' : listed.getD i false = false := by
          rw [Array.getD_eq_getD_getElem?, Array.getElem?_eq_getElem (by omega)] at hun ⊢
          simpa using hun
        have hz' : (listed.setIfInBounds i true).size = ops.size := by simpa using hz
        have hcnt' : (listed.setIfInBounds i true).toList.count false = fuel := by
          have := count_set listed i (by omega) hun
          omega
        have hset : ∀ j, (listed.setIfInBounds i true).getD j false = (listed.getD j false || j == i) := fun j => getD_set listed i j (by omega)
        have hcase : i ∈ qs ∨ i ∈ ls := by
          have := List.all_eq_true.1 hcov i (List.mem_range.2 hlt)
          simpa using this
        unfold wpOp
        simp only [ho]
        rcases hcase with hq | hl
        · have hnl' : i ∉ ls := hql i hq
          -- the frame bears V at what o looks at
          have hd := hfacts i hq o ho _ aq hAq
          have hfq : ∀ j, feeds ops j o = true → (([] : List Nat).contains j || qs.contains j) = true := by
            intro j hj
            -- a quiet operation looks at quiet ones alone
            have hs : ∀ (l seen : List Nat), seenB ops seen l = true → i ∈ l → ∀ j, feeds ops j o = true → j ∈ seen ∨ j ∈ l := by
              intro l
              induction l with
              | nil => intro _ _ h; cases h
              | cons k l ihl =>
                intro seen hs hm j hj
                cases hok : ops[k]? with
                | none => simp [seenB, hok] at hs
                | some ok =>
                  simp only [seenB, hok, Bool.and_eq_true] at hs
                  cases hm with
                  | head =>
                    rw [ho] at hok
                    injection hok with hok
                    subst hok
                    have := List.all_eq_true.1 hs.1 j (List.mem_range.2 (feeds_lt hj))
                    simp only [hj, Bool.not_true, Bool.false_or] at this
                    exact .inl (by simpa using this)
                  | tail _ hm =>
                    rcases ihl _ hs.2 hm j hj with hh | hh
                    · cases hh with
                      | head => exact .inr (List.mem_cons_self ..)
                      | tail _ hh => exact .inl hh
                    · exact .inr (List.mem_cons_of_mem _ hh)
            rcases hs qs [] hseen hq j hj with hh | hh
            · cases hh
            · simpa using hh
          have hd' := (hd hfq).same hsi (Agrees.tmp hAq hA fun j hj => ⟨hfq j hj, hfl j hj, (hWq g j (by simpa using hfq j hj)).symm⟩)
          have next : ∀ w2, Below w1.heap.size w1 w2 → wpAny P .any ops Q fuel (listed.setIfInBounds i true) (b.put o.dst (V i)) w2 := fun w2 hb => by
            obtain ⟨hC2, hE2⟩ := hCE _ g w1 w2 hC hE hb
            have hA2 := hA.put hdis ho
            rw [hWq g i hq] at hA2
            refine ih _ g _ w2 hz' hcnt' (hA2.congr (fun j _ => hset j) (fun _ _ => rfl)) hC2 (hEL _ _ g w2 (fun j hj => ?_) hE2)
            rw [hset j]
            have : j ≠ i := fun e => by subst e; exact hnl' hj
            simp [this]
          rcases hd' with ⟨hw, hv⟩ | ⟨hw, hv⟩
          · rw [if_pos hw]
            refine .inl ?_
            have h3 := hv w1 hC
            unfold Oper.quietAt at h3
            unfold Oper.wp
            generalize (execOp b.eval o).run P w1 = r at *
            cases r with
            | ok n w' =>
              cases n <;> simp only [Oper.quietUpon] at h3 <;> simp only [Oper.upon]
              case value u =>
                obtain ⟨e1, e2⟩ := h3
                subst e1
                subst e2
                exact next _ (Below.refl _ _)
              case skip =>
                obtain ⟨e1, e2⟩ := h3
                subst e1
                rw [← e2]
                exact next _ (Below.refl _ _)
              case enter f args =>
                obtain ⟨e1, hc⟩ := h3
                subst e1
                exact hc.mono fun e w'' ⟨he, hb⟩ => by subst he; exact next _ hb
            | halt x w' => simp only [Oper.quietUpon] at h3
          · rw [if_neg (by rw [hw]; simp), ← hv]
            exact next _ (Below.refl _ _)
        · obtain ⟨o', ho', hg⟩ := hlo i hl
          rw [ho] at ho'
          injection ho' with ho'
          subst ho'
          have hw : Region.wanted o (yielded ops b.tmps) = true := by simp [Region.wanted, hg]
          rw [if_pos hw]
          refine .inl ?_
          have h3 := (hL1 i hl o ho _ g w1 hC hE hun' hwl).out
          have hex : execOp b.eval o = execOp (lateput ops (U g) ls aq).eval o := exec_same hsi (Agrees.tmp hA (hfin g) fun j hj => ⟨hfl j hj, rfl, rfl⟩)
          rw [← hex] at h3
          have next : ∀ u w2, (∃ g', U g' i = u ∧ (∀ j ∈ ls, (listed.getD j false) = true → U g' j = U g j) ∧ C w2 ∧ E (fun j => listed.getD j false || j == i) g' w2) →
              wpAny P .any ops Q fuel (listed.setIfInBounds i true) (b.put o.dst u) w2 := by
            rintro u w2 ⟨g', rfl, hU, hC2, hE2⟩
            have hA1 : Agrees ops (W g') a (fun i => listed.getD i false) b := hA.congr (fun _ _ => rfl) fun j hj => by
              by_cases hjl : j ∈ ls
              · rw [hWl g' j hjl, hWl g j hjl]
                exact hU j hjl hj
              · simp [W, hjl]
            have hA2 := hA1.put hdis ho
            rw [hWl g' i hl] at hA2
            exact ih _ g' _ w2 hz' hcnt' (hA2.congr (fun j _ => hset j) (fun _ _ => rfl)) hC2 (hEL _ _ g' w2 (fun j _ => hset j) hE2)
          unfold Oper.wp
          generalize (execOp b.eval o).run P w1 = r at *
          cases r with
          | ok n w' =>
            cases n <;> simp only [LateUponD] at h3 <;> simp only [Oper.upon]
            case value u => exact next _ _ h3
            case skip => exact next _ _ h3
            case enter f args => exact Calls.mono h3 fun e w'' ⟨u, he, hr⟩ => by subst he; exact next _ _ hr
          | halt x w' => simp only [LateUponD] at h3
  refine wp_region_any hm (main _ _ g0 a _ (by simp) (by simp) ((Agrees.start ops _ a).congr (fun i hi => ?_) (fun _ _ => rfl)) hC0 (hEL _ _ g0 _ (fun i hi => ?_) hE0))
  · simp [Array.getD_eq_getD_getElem?, hi]
  · obtain ⟨o, ho, _⟩ := hlo i hi
    have hlt := (Array.getElem?_eq_some_iff.1 ho).1
    simp [Array.getD_eq_getD_getElem?, hlt]

/-! ### Over the written-out list -/
def lidxs : List Bool → Nat → List Nat
  | [], _ => []
  | false :: bs, n => n :: lidxs bs (n + 1)
  | true :: bs, n => lidxs bs (n + 1)
/-- Each late operation, by its number. -/
def lateAll (φ : Nat → Oper → Prop) : List Oper → List Bool → Nat → Prop
  | o :: l, false :: bs, n => φ n o ∧ lateAll φ l bs (n + 1)
  | _ :: l, true :: bs, n => lateAll φ l bs (n + 1)
  | _, _, _ => True
theorem lateAll_cons {φ : Nat → Oper → Prop} {o : Oper} {l : List Oper} {bs : List Bool} {n : Nat} (h : φ n o) (h' : lateAll φ l bs (n + 1)) : lateAll φ (o :: l) (false :: bs) n := ⟨h, h'⟩
theorem lateAll_skip {φ : Nat → Oper → Prop} {o : Oper} {l : List Oper} {bs : List Bool} {n : Nat} (h' : lateAll φ l bs (n + 1)) : lateAll φ (o :: l) (true :: bs) n := h'
theorem lateAll_nil {φ : Nat → Oper → Prop} {n : Nat} : lateAll φ [] [] n := trivial
theorem lateAll_spec {φ : Nat → Oper → Prop} : ∀ (l : List Oper) (bs : List Bool) (n : Nat), (∀ j, l[j]? = ops[n + j]?) → lateAll φ l bs n → ∀ i ∈ lidxs bs n, ∀ o, ops[i]? = some o → φ i o
  | [], [], _, _, _, i, hi, _, _ => by cases hi
  | o :: l, false :: bs, n, hl, h, i, hi, o', ho' => by
    have hl' : ∀ j, l[j]? = ops[n + 1 + j]? := fun j => by have := hl (j + 1); simpa [Nat.add_assoc, Nat.add_comm 1 j] using this
    cases hi with
    | head =>
      have h0 : ops[n]? = some o := by simpa using (hl 0).symm
      rw [h0] at ho'
      injection ho' with ho'
      subst ho'
      exact h.1
    | tail _ hi => exact lateAll_spec l bs (n + 1) hl' h.2 i hi o' ho'
  | o :: l, true :: bs, n, hl, h, i, hi, o', ho' =>
    lateAll_spec l bs (n + 1) (fun j => by have := hl (j + 1); simpa [Nat.add_assoc, Nat.add_comm 1 j] using this) h i hi o' ho'
  | o :: l, [], n, hl, h, i, hi, o', ho' => by cases hi
  | [], b :: bs, n, hl, h, i, hi, o', ho' => by
    exfalso
    have : n ≤ i := by
      have hmem : ∀ (bs : List Bool) (n i : Nat), i ∈ lidxs bs n → n ≤ i := by
        intro bs
        induction bs with
        | nil => intro n i h; cases h
        | cons b bs ih =>
          intro n i h
          cases b with
          | true => exact Nat.le_trans (Nat.le_succ n) (ih _ _ h)
          | false =>
            cases h with
            | head => exact Nat.le_refl _
            | tail _ h => exact Nat.le_trans (Nat.le_succ n) (ih _ _ h)
      exact hmem _ _ _ hi
    have h0 := hl (i - n)
    rw [show n + (i - n) = i by omega, ho'] at h0
    cases h0
def lateputL (U : Nat → Value) : List Oper → List Bool → Nat → Act → Act
  | o :: l, false :: bs, n, a => lateputL U l bs (n + 1) (a.put o.dst (U n))
  | _ :: l, true :: bs, n, a => lateputL U l bs (n + 1) a
  | _, _, _, a => a
theorem lateput_list (U : Nat → Value) : ∀ (l : List Oper) (bs : List Bool) (n : Nat) (a : Act), (∀ j, l[j]? = ops[n + j]?) → l.length = bs.length → lateput ops U (lidxs bs n) a = lateputL U l bs n a
  | [], [], _, _, _, _ => rfl
  | o :: l, false :: bs, n, a, hl, hz => by
    have h0 : ops[n]? = some o := by simpa using (hl 0).symm
    simp only [lidxs, lateput, lateputL, h0, Option.bind_some]
    exact lateput_list U l bs (n + 1) _ (fun j => by have := hl (j + 1); simpa [Nat.add_assoc, Nat.add_comm 1 j] using this) (by simpa using hz)
  | o :: l, true :: bs, n, a, hl, hz => lateput_list U l bs (n + 1) a (fun j => by have := hl (j + 1); simpa [Nat.add_assoc, Nat.add_comm 1 j] using this) (by simpa using hz)
  | [], _ :: _, _, _, _, hz => by cases hz
  | _ :: _, [], _, _, _, hz => by cases hz
theorem wp_region_mildL {id : Nat} {a : Act} {w : World} {l : List Oper} (bs : List Bool) (g0 : γ) (hm : P.follows .mixedOrders = true) (hz : l.length = bs.length) (hB : mildB .any l.toArray (idxs bs 0) (lidxs bs 0) = true)
    (hC0 : C { w with drawn := w.drawn + 1 }) (hE0 : E (fun _ => false) g0 { w with drawn := w.drawn + 1 })
    (hCE : ∀ L g w w', C w → E L g w → Below w.heap.size w w' → C w' ∧ E L g w')
    (hEL : ∀ L L' g w, (∀ i ∈ lidxs bs 0, L' i = L i) → E L g w → E L' g w)
    (h : wpMildL P l.toArray C (fun aq =>
      lateAll (fun i o => ∀ L g w, C w → E L g w → L i = false → (∀ j, waitsB .any o j = true → L j = true) →
        LateUpon P (fun u w' => ∃ g', U g' i = u ∧ (∀ j ∈ lidxs bs 0, L j = true → U g' j = U g j) ∧ C w' ∧ E (fun j => L j || j == i) g' w') ((execOp (lateputL (U g) l bs 0 aq).eval o).run P w)) l bs 0 ∧
      ∀ L g w', (∀ i, i < l.toArray.size → L i = true) → C w' → E L g w' → Q .normal (lateputL (U g) l bs 0 aq) w') l bs a) :
    (Code.region id l.toArray true).wp P Q a w := by
  replace h := wpMild_of_list l bs 0 a (by simp) h
  have hlp : ∀ g aq, lateput l.toArray (U g) (lidxs bs 0) aq = lateputL (U g) l bs 0 aq := fun g aq => lateput_list (U g) l bs 0 aq (by simp) hz
  simp only [← hlp] at h
  refine wp_region_mild (U := U) (E := E) (idxs bs 0) (lidxs bs 0) g0 hm hB hC0 hE0 hCE hEL (wpMild_mono (fun aq haq => ⟨?_, haq.2⟩) _ a h)
  exact lateAll_spec l bs 0 (by simp) haq.1

/-! ### Without late operations; and with one variable made and filled -/
theorem wp_region_mild0 {id : Nat} {a : Act} {w : World} {l : List Oper} (bs : List Bool) (hm : P.follows .mixedOrders = true) (hB : mildB .any l.toArray (idxs bs 0) [] = true)
    (h : wpMildL P l.toArray (fun w' => Below w.heap.size w w') (fun aq => ∀ w', Below w.heap.size w w' → Q .normal aq w') l bs a) : (Code.region id l.toArray true).wp P Q a w := by
  replace h := wpMild_of_list l bs 0 a (by simp) h
  generalize idxs bs 0 = qs at *
  have hd : Below w.heap.size w { w with drawn := w.drawn + 1 } := ⟨rfl, rfl, rfl, Nat.le_refl _, fun _ _ => rfl⟩
  refine wp_region_mild (C := fun w' => Below w.heap.size w w') (γ := Unit) (U := fun _ _ => undef) (E := fun _ _ _ => True) qs [] () hm hB hd trivial
    (fun _ _ w1 w2 h1 _ h2 => ⟨h1.trans (h2.mono h1.size), trivial⟩) (fun _ _ _ _ _ _ => trivial) ?_
  refine wpMild_mono (fun aq haq => ⟨(fun i hi => by cases hi), fun _ _ w' _ hw _ => haq w' hw⟩) qs a h

theorem setCells_block (g : Nat) (t : TypeId) : ∀ (vs : List Value) (o : Nat) (w : World) (pre : List Value) (cs : List Value), pre.length = o → cs.length = vs.length → w.heap[g]? = some (.cells (pre ++ cs).toArray t (0, 0)) →
    (w.setCells g o vs).heap[g]? = some (.cells (pre ++ vs).toArray t (0, 0))
  | [], o, w, pre, cs, _, hl, h => by
    have : cs = [] := List.length_eq_zero_iff.1 hl
    subst this
    exact h
  | v :: vs, o, w, pre, [], _, hl, h => by cases hl
  | v :: vs, o, w, pre, c :: cs, ho, hl, h => by
    subst ho
    have h1 : (w.setCell ⟨g, pre.length, none⟩ v).heap[g]? = some (.cells ((pre ++ [v]) ++ cs).toArray t (0, 0)) := by
      simp [World.setCell, Array.getElem?_modify, h]
    have := setCells_block g t vs (pre.length + 1) _ (pre ++ [v]) cs (by simp) (by simpa using hl) h1
    simpa [World.setCells] using this

theorem setCells_grown (g : Nat) : ∀ (vs : List Value) (o : Nat) (w : World), w.grownBy (w.setCells g o vs) (some g)
  | [], _, w => ⟨rfl, rfl, rfl, Nat.le_refl _, fun _ _ _ => rfl⟩
  | v :: vs, o, w => by
    have h := setCells_grown g vs (o + 1) (w.setCell ⟨g, o, none⟩ v)
    have hs : (w.setCell ⟨g, o, none⟩ v).heap.size = w.heap.size := by simp [World.setCell]
    refine ⟨h.os, h.tape, h.output, by rw [← hs]; exact h.size, fun k hk hne => ?_⟩
    have := h.block k (by rw [hs]; exact hk) hne
    refine this.trans (Below.heap_setCell _ _ _ _ fun e => hne (by rw [e]))

/-- A store of a whole struct into a block that is known whole. -/
theorem late_store {o : Oper} {a : Act} {w : World} (ty : TypeId) (x y : Operand) (ho : o.op = .store ty x y) (g : Nat) (cs cs0 : Array Value) (t : TypeId)
    (hx : a.eval x = .pointer (some ⟨g, 0, none⟩)) (hy : a.eval y = .agg cs) (hb : w.heap[g]? = some (.cells cs0 t (0, 0))) (hz : cs0.size = cs.size)
    (hi : (P.info? ty).map (·.size) = some cs.size) (h1 : cs.all (·.oneCell') = true) {R : Value → World → Prop}
    (hR : ∀ w', w.grownBy w' (some g) → w'.heap[g]? = some (.cells cs t (0, 0)) → R undef w') : LateUpon P R ((execOp a.eval o).run P w) := by
  have ht : w.there g 0 cs.size := fun j hj => by
    simp only [World.cell?, World.frozen?, hb]
    simp [hz, hj]
  refine ⟨?_⟩
  unfold execOp
  simp only [ho, hx, hy, Instr.storeAt, Instr.sureAddr, Sem.run_bind, Sem.run_pure, Result.andThen_ok, run_storeVar_mid w g 0 ty cs ht hi h1]
  refine hR _ (setCells_grown g _ _ _) ?_
  have := setCells_block g t cs.toList 0 w [] cs0.toList rfl (by simpa using hz) (by simpa using hb)
  simpa using this

/-- One variable 'T' is made (operation k) and a struct stored into it (operation s) among quiet operations. -/
theorem wp_region_mild1 {id : Nat} {a : Act} {w : World} {l : List Oper} (bs : List Bool) (k s dk : Nat) (ok os : Oper) (ty : TypeId) (x y : Operand) (cs0 : Array Value) (t : TypeId)
    (hm : P.follows .mixedOrders = true) (hB : mildB .any l.toArray (idxs bs 0) [k, s] = true)
    (hk : l.toArray[k]? = some ok) (hs : l.toArray[s]? = some os) (hks : k ≠ s) (hw : waitsB .any os k = true) (hop : os.op = .store ty x y) (hdst : os.dst = none) (hdk : ok.dst = some dk)
    (hinfo : (P.info? ty).map (·.size) = some cs0.size)
    (ha : ∀ (ρ : Operand → Value) w, (execOp ρ ok).run P w = .ok (.value (.pointer (some ⟨w.heap.size, 0, none⟩))) (w.alloc (.cells cs0 t)))
    (h : wpMildL P l.toArray (fun w' => Below w.heap.size w w') (fun aq => ∃ cs : Array Value, (∀ g, (aq.put (some dk) (.pointer (some ⟨g, 0, none⟩))).eval x = .pointer (some ⟨g, 0, none⟩) ∧ (aq.put (some dk) (.pointer (some ⟨g, 0, none⟩))).eval y = .agg cs) ∧ cs0.size = cs.size ∧ cs.all (·.oneCell') = true ∧
      ∀ g w', w.heap.size ≤ g → Below w.heap.size w w' → w'.heap[g]? = some (.cells cs t (0, 0)) → Q .normal (aq.put (some dk) (.pointer (some ⟨g, 0, none⟩))) w') l bs a) : (Code.region id l.toArray true).wp P Q a w := by
  rw [← hdk] at h
  replace h := wpMild_of_list l bs 0 a (by simp) h
  generalize idxs bs 0 = qs at *
  have hd : Below w.heap.size w { w with drawn := w.drawn + 1 } := ⟨rfl, rfl, rfl, Nat.le_refl _, fun _ _ => rfl⟩
  -- the walk, with the value stored chosen: it is the same in all that follows
  have hx : ∃ cs : Array Value, wpMild P l.toArray (fun w' => Below w.heap.size w w') (fun aq => (∀ g, (aq.put ok.dst (.pointer (some ⟨g, 0, none⟩))).eval x = .pointer (some ⟨g, 0, none⟩) ∧ (aq.put ok.dst (.pointer (some ⟨g, 0, none⟩))).eval y = .agg cs) ∧ cs0.size = cs.size ∧ cs.all (·.oneCell') = true ∧
      ∀ g w', w.heap.size ≤ g → Below w.heap.size w w' → w'.heap[g]? = some (.cells cs t (0, 0)) → Q .normal (aq.put ok.dst (.pointer (some ⟨g, 0, none⟩))) w') qs a := wpMild_exists qs a h
  obtain ⟨cs, h⟩ := hx
  have hlp : ∀ (g : Nat) (aq : Act), lateput l.toArray (fun i => if i = k then .pointer (some ⟨g, 0, none⟩) else undef) [k, s] aq = aq.put ok.dst (.pointer (some ⟨g, 0, none⟩)) := fun g aq => by
    simp only [lateput, hk, hs, Option.bind_some, hdst, if_true]
    rfl
  refine wp_region_mild (C := fun w' => Below w.heap.size w w') (γ := Nat) (U := fun g i => if i = k then .pointer (some ⟨g, 0, none⟩) else undef)
    (E := fun L g w' => (L s = true → L k = true) ∧ (L k = true → w.heap.size ≤ g ∧ g < w'.heap.size ∧ w'.heap[g]? = some (.cells (if L s then cs else cs0) t (0, 0)))) qs [k, s] 0 hm hB hd ⟨fun h => (by cases h), fun h => (by cases h)⟩
    (fun L g w1 w2 h1 hE h2 => ⟨h1.trans (h2.mono h1.size), hE.1, fun hL => ?_⟩) (fun L L' g w1 hl hE => ?_) (wpMild_mono (fun aq haq => ⟨fun i hi o ho L g w1 hC hE hLi hdep => ?_, fun L g w' hall hC hE => ?_⟩) qs a h)
  · obtain ⟨e1, e2, e3⟩ := hE.2 hL
    exact ⟨e1, Nat.lt_of_lt_of_le e2 h2.size, (h2.block g e2).trans e3⟩
  · rw [hl k (by simp), hl s (by simp)]
    exact hE
  · obtain ⟨hev, hz, h1, _⟩ := haq
    rw [hlp]
    have hcase : i = k ∨ i = s := by simpa using hi
    rcases hcase with rfl | rfl
    · rw [hk] at ho
      injection ho with ho
      subst ho
      rw [ha]
      have hLs : L s = false := by
        rw [← Bool.not_eq_true]
        intro hh
        rw [hE.1 hh] at hLi
        cases hLi
      refine ⟨w1.heap.size, by simp, fun j hj hLj => ?_, hC.alloc hC.size _, fun _ => by simp, fun _ => ⟨hC.size, by simp, ?_⟩⟩
      · have hcj : j = i ∨ j = s := by simpa using hj
        rcases hcj with rfl | rfl
        · rw [hLi] at hLj; cases hLj
        · rw [hLs] at hLj; cases hLj
      · have : (s == i) = false := by simpa using Ne.symm hks
        simp only [hLs, this, Bool.or_self, Bool.false_eq_true, if_false]
        exact Go.heap_alloc_new w1 _
    · rw [hs] at ho
      injection ho with ho
      subst ho
      have hLk : L k = true := hdep k hw
      obtain ⟨e1, e2, e3⟩ := hE.2 hLk
      rw [hLi] at e3
      simp only [Bool.false_eq_true, if_false] at e3
      refine late_store ty x y hop g cs cs0 t (hev g).1 (hev g).2 e3 hz (by rw [← hz]; exact hinfo) h1 fun w2 hg hb => ?_
      refine ⟨g, by simp [Ne.symm hks], fun _ _ _ => rfl, hC.grown hg hC.size (fun k' hk' => by injection hk' with hk'; omega), fun _ => by simp [hLk], fun _ => ⟨e1, Nat.lt_of_lt_of_le e2 hg.size, ?_⟩⟩
      simpa using hb
  · obtain ⟨hev, hz, h1, hfin⟩ := haq
    have hks' : k < l.toArray.size := (Array.getElem?_eq_some_iff.1 hk).1
    have hss' : s < l.toArray.size := (Array.getElem?_eq_some_iff.1 hs).1
    obtain ⟨e1, e2, e3⟩ := hE.2 (hall k hks')
    rw [hall s hss'] at e3
    rw [hlp]
    exact hfin g w' e1 hC (by simpa using e3)

/-- A load of a whole struct out of a block that is known whole. -/
theorem mild_load {o : Oper} {a : Act} (ty : TypeId) (x : Operand) (ho : o.op = .load ty x) (g : Nat) (hx : a.eval x = .pointer (some ⟨g, 0, none⟩)) (cs : Array Value) (t : TypeId) (d : TypeDesc)
    (hb : ∀ w, C w → w.heap[g]? = some (.cells cs t (0, 0))) (hu : P.underlying ty = some d) (hd : d.isRow = true) (hi : (P.info? ty).map (·.size) = some cs.size) {R : World → World → Prop} :
    ∀ w, C w → o.quietAt P a (R w) w (.agg cs) := fun w hw => by
  have hr : w.rangeAt g 0 cs.toList := fun j v hv => by
    simp only [World.cell?, hb w hw]
    simpa using hv
  unfold Oper.quietAt execOp
  simp only [ho, hx, Instr.loadAt, Instr.sureAddr, Sem.run_bind, Sem.run_pure, Result.andThen_ok, run_loadVar_mid w g 0 ty cs.toList d hr hu hd (by simpa using hi)]
  exact ⟨rfl, by simp⟩
end
end Go.Proofs.Ytonkblhajbphmaa
