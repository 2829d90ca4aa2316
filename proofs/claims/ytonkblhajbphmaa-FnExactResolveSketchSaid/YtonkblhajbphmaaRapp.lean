/- A region that draws its order, in which a slice's header is loaded, one element is appended, and the header is stored back. No program in sight. Conditions: as each theorem says. -/
import Derived.Test.YtonkblhajbphmaaRecs
namespace Go.Proofs.Ytonkblhajbphmaa
set_option linter.unusedSimpArgs false
set_option linter.unusedVariables false
open Go Go.RowKit

theorem late_mono {P : Program} {R R' : Value → World → Prop} {r : Result Next} (h : LateUpon P R r) (hR : ∀ u w, R u w → R' u w) : LateUpon P R' r := by
  obtain ⟨h⟩ := h
  refine ⟨?_⟩
  unfold LateUponD at h ⊢
  split at h
  · exact hR _ _ h
  · exact hR _ _ h
  · exact h.mono fun e w ⟨u, he, hu⟩ => ⟨u, he, hR _ _ hu⟩
  · exact h.elim
theorem wp_region_app {P : Program} {Q : Exit → Act → World → Prop} {id : Nat} {a : Act} {w : World} {l : List Oper} (bs : List Bool) (k1 k2 k3 k4 d1 d2 d3 : Nat) (o1 o2 o3 o4 : Oper) (v : Value) (cs : Array Value) (e : TypeId) (C S0 : World → Prop) (S1 S2 : Value → World → Prop)
    (hm : P.follows .mixedOrders = true) (hB : mildB .any l.toArray (idxs bs 0) [k1, k2, k3, k4] = true) (hne : nodupB [k1, k2, k3, k4] = true)
    (h1 : l.toArray[k1]? = some o1) (h2 : l.toArray[k2]? = some o2) (h3 : l.toArray[k3]? = some o3) (h4 : l.toArray[k4]? = some o4) (hd1 : o1.dst = some d1) (hd2 : o2.dst = some d2) (hd3 : o3.dst = some d3) (hd4 : o4.dst = none)
    (hw31 : waitsB .any o3 k1 = true) (hw32 : waitsB .any o3 k2 = true) (hw43 : waitsB .any o4 k3 = true)
    (hS0 : S0 { w with drawn := w.drawn + 1 })
    (c0 : ∀ w w', C w → Below w.heap.size w w' → C w') (s0 : ∀ w w', S0 w → Below w.heap.size w w' → S0 w') (s1 : ∀ v' w w', S1 v' w → Below w.heap.size w w' → S1 v' w') (s2 : ∀ v' w w', S2 v' w → Below w.heap.size w w' → S2 v' w')
    (i0 : ∀ w, S0 w → C w) (i1 : ∀ v' w, S1 v' w → C w) (i2 : ∀ v' w, S2 v' w → C w)
    (h : wpMildL P l.toArray C (fun aq =>
      (∀ (g : Nat) (v' : Value) (w' : World), S0 w' → (execOp (((aq.put (some d1) v).put (some d2) (.slice (some ⟨g, 0, none⟩) 1 1)).put (some d3) v').eval o1).run P w' = .ok (.value v) w') ∧
      (∀ (g : Nat) (v' : Value) (w' : World), (execOp (((aq.put (some d1) v).put (some d2) (.slice (some ⟨g, 0, none⟩) 1 1)).put (some d3) v').eval o2).run P w' = .ok (.value (.slice (some ⟨w'.heap.size, 0, none⟩) 1 1)) (w'.alloc (.cells cs e))) ∧
      (∀ (g : Nat) (v' : Value) (w' : World), S0 w' → Blk w' g e cs → LateUpon P (fun u w'' => S1 u w'') ((execOp (((aq.put (some d1) v).put (some d2) (.slice (some ⟨g, 0, none⟩) 1 1)).put (some d3) v').eval o3).run P w')) ∧
      (∀ (g : Nat) (v' : Value) (w' : World), S1 v' w' → LateUpon P (fun u w'' => u = undef ∧ S2 v' w'') ((execOp (((aq.put (some d1) v).put (some d2) (.slice (some ⟨g, 0, none⟩) 1 1)).put (some d3) v').eval o4).run P w')) ∧
      ∀ (g : Nat) (v' : Value) (w' : World), S2 v' w' → Q .normal (((aq.put (some d1) v).put (some d2) (.slice (some ⟨g, 0, none⟩) 1 1)).put (some d3) v') w') l bs a) :
    (Code.region id l.toArray true).wp P Q a w := by
  replace h := wpMild_of_list l bs 0 a (by simp) h
  generalize idxs bs 0 = qs at *
  simp only [nodupB, List.contains_cons, List.contains_nil, Bool.or_false, Bool.and_true, Bool.and_eq_true, Bool.not_eq_true', Bool.or_eq_false_iff, Bool.not_false, beq_eq_false_iff_ne, ne_eq] at hne
  obtain ⟨⟨n12, n13, n14⟩, ⟨n23, n24⟩, n34⟩ := hne
  have hlp : ∀ (γ : Nat × Value) (aq : Act), lateput l.toArray (fun i => if i = k1 then v else if i = k2 then .slice (some ⟨γ.1, 0, none⟩) 1 1 else if i = k3 then γ.2 else undef) [k1, k2, k3, k4] aq = ((aq.put (some d1) v).put (some d2) (.slice (some ⟨γ.1, 0, none⟩) 1 1)).put (some d3) γ.2 := fun γ aq => by
    simp only [lateput, h1, h2, h3, h4, Option.bind_some, hd1, hd2, hd3, hd4, if_true, if_neg (Ne.symm n12), if_neg (Ne.symm n13), if_neg (Ne.symm n23)]
    rfl
  refine wp_region_mild (C := C) (γ := Nat × Value) (U := fun γ i => if i = k1 then v else if i = k2 then .slice (some ⟨γ.1, 0, none⟩) 1 1 else if i = k3 then γ.2 else undef)
    (E := fun L γ w' => ((L k3 = true → L k1 = true ∧ L k2 = true) ∧ (L k4 = true → L k3 = true)) ∧ (L k2 = true → L k3 = false → Blk w' γ.1 e cs) ∧ (if L k4 then S2 γ.2 w' else if L k3 then S1 γ.2 w' else S0 w'))
    qs [k1, k2, k3, k4] (0, undef) hm hB (i0 _ hS0) ⟨⟨fun h => (by cases h), fun h => (by cases h)⟩, fun h => (by cases h), hS0⟩
    (fun L γ w1 w2 hC hE hb => ⟨c0 _ _ hC hb, hE.1, fun hL hL' => (hE.2.1 hL hL').below hb, ?_⟩) (fun L L' γ w1 hl hE => ?_) (wpMild_mono (fun aq haq => ⟨fun i hi o ho L γ w1 hC hE hLi hdep => ?_, fun L γ w' hall hC hE => ?_⟩) qs a h)
  · have := hE.2.2
    cases hL4 : L k4
    · cases hL3 : L k3
      · simp only [hL4, hL3, Bool.false_eq_true, if_false] at this ⊢
        exact s0 _ _ this hb
      · simp only [hL4, hL3, Bool.false_eq_true, if_false, if_true] at this ⊢
        exact s1 _ _ _ this hb
    · simp only [hL4, if_true] at this ⊢
      exact s2 _ _ _ this hb
  · rw [hl k1 (by simp), hl k2 (by simp), hl k3 (by simp), hl k4 (by simp)]
    exact hE
  · obtain ⟨f1, f2, f3, f4, _⟩ := haq
    obtain ⟨⟨e1, e2⟩, eB, eS⟩ := hE
    rw [hlp]
    have hcase : i = k1 ∨ i = k2 ∨ i = k3 ∨ i = k4 := by simpa using hi
    rcases hcase with rfl | rfl | rfl | rfl
    · rw [h1] at ho
      injection ho with ho
      subst ho
      have hL3 : L k3 = false := by
        rw [← Bool.not_eq_true]
        intro hh
        rw [(e1 hh).1] at hLi
        cases hLi
      have hL4 : L k4 = false := by
        rw [← Bool.not_eq_true]
        intro hh
        rw [e2 hh] at hL3
        cases hL3
      simp only [hL4, hL3, Bool.false_eq_true, if_false] at eS
      have m2 : (k2 == i) = false := by simpa using fun h : k2 = i => n12 h.symm
      have m3 : (k3 == i) = false := by simpa using fun h : k3 = i => n13 h.symm
      have m4 : (k4 == i) = false := by simpa using fun h : k4 = i => n14 h.symm
      refine late_value (f1 γ.1 γ.2 w1 eS) ⟨γ, by simp, fun _ _ _ => rfl, hC, ⟨fun hh => ?_, fun hh => ?_⟩, fun hh _ => ?_, ?_⟩
      · simp only [m3, hL3, Bool.or_self] at hh; cases hh
      · simp only [m4, hL4, Bool.or_self] at hh; cases hh
      · simp only [m2, Bool.or_false] at hh
        exact eB hh hL3
      · simp only [m3, m4, hL3, hL4, Bool.or_self, Bool.false_eq_true, if_false]
        exact eS
    · rw [h2] at ho
      injection ho with ho
      subst ho
      have hL3 : L k3 = false := by
        rw [← Bool.not_eq_true]
        intro hh
        rw [(e1 hh).2] at hLi
        cases hLi
      have hL4 : L k4 = false := by
        rw [← Bool.not_eq_true]
        intro hh
        rw [e2 hh] at hL3
        cases hL3
      simp only [hL4, hL3, Bool.false_eq_true, if_false] at eS
      have m3 : (k3 == i) = false := by simpa using fun h : k3 = i => n23 h.symm
      have m4 : (k4 == i) = false := by simpa using fun h : k4 = i => n24 h.symm
      have hb : Below w1.heap.size w1 (w1.alloc (.cells cs e)) := (Below.refl _ _).alloc (Nat.le_refl _) _
      refine late_value (f2 γ.1 γ.2 w1) ⟨(w1.heap.size, γ.2), by simp [Ne.symm n12], fun j hj hLj => ?_, c0 _ _ hC hb, ⟨fun hh => ?_, fun hh => ?_⟩, fun _ _ => Blk.new _ _ _, ?_⟩
      · have : j ≠ i := fun h => by rw [h, hLi] at hLj; cases hLj
        simp [this]
      · simp only [m3, hL3, Bool.or_self] at hh; cases hh
      · simp only [m4, hL4, Bool.or_self] at hh; cases hh
      · simp only [m3, m4, hL3, hL4, Bool.or_self, Bool.false_eq_true, if_false]
        exact s0 _ _ eS hb
    · rw [h3] at ho
      injection ho with ho
      subst ho
      have hL1 : L k1 = true := hdep k1 hw31
      have hL2 : L k2 = true := hdep k2 hw32
      have hL4 : L k4 = false := by
        rw [← Bool.not_eq_true]
        intro hh
        rw [e2 hh] at hLi
        cases hLi
      simp only [hL4, hLi, Bool.false_eq_true, if_false] at eS
      have m1 : (k1 == i) = false := by simpa using n13
      have m2 : (k2 == i) = false := by simpa using n23
      have m4 : (k4 == i) = false := by simpa using fun h : k4 = i => n34 h.symm
      have key := f3 γ.1 γ.2 w1 eS (eB hL2 hLi)
      refine late_mono key fun u w2 hu => ?_
      refine ⟨(γ.1, u), by simp [Ne.symm n13, Ne.symm n23], fun j hj hLj => ?_, i1 _ _ hu, ⟨fun _ => by simp [hL1, hL2], fun hh => ?_⟩, fun _ hh => ?_, ?_⟩
      · have : j ≠ i := fun h => by rw [h, hLi] at hLj; cases hLj
        simp [this]
      · simp only [m4, hL4, Bool.or_self] at hh; cases hh
      · simp at hh
      · simp only [m4, hL4, Bool.or_self, Bool.false_eq_true, if_false, beq_self_eq_true, Bool.or_true, if_true]
        exact hu
    · rw [h4] at ho
      injection ho with ho
      subst ho
      have hL3 : L k3 = true := hdep k3 hw43
      simp only [hLi, hL3, Bool.false_eq_true, if_false, if_true] at eS
      have m1 : (k1 == i) = false := by simpa using n14
      have m2 : (k2 == i) = false := by simpa using n24
      have m3 : (k3 == i) = false := by simpa using n34
      have key := f4 γ.1 γ.2 w1 eS
      refine late_mono key fun u w2 hu => ?_
      obtain ⟨rfl, hu⟩ := hu
      refine ⟨γ, by simp [Ne.symm n14, Ne.symm n24, Ne.symm n34], fun _ _ _ => rfl, i2 _ _ hu, ⟨fun hh => ?_, fun _ => by simp [hL3]⟩, fun _ hh => ?_, ?_⟩
      · have := e1 hL3
        simp [this.1, this.2]
      · simp [hL3] at hh
      · simp only [beq_self_eq_true, Bool.or_true, if_true]
        exact hu
  · obtain ⟨_, _, _, _, hfin⟩ := haq
    have b4 : k4 < l.toArray.size := (Array.getElem?_eq_some_iff.1 h4).1
    obtain ⟨_, _, eS⟩ := hE
    rw [hall k4 b4] at eS
    rw [hlp]
    exact hfin γ.1 γ.2 w' (by simpa using eS)
end Go.Proofs.Ytonkblhajbphmaa
