/- Sketches: the program's test, joined. Conditions: as each theorem says. -/
import Derived.Test.YtonkblhajbphmaaRows
import Derived.Test.YtonkblhajbphmaaSkI
namespace Go.Proofs.Ytonkblhajbphmaa
set_option linter.unusedSimpArgs false
set_option linter.unusedVariables false
open Go.ChangeShapes Go.WideShapes Go.ChangeAt Go.RowKit

def badSlot (s : SV) : Bool := !slotOk s
theorem impl_IsValidSketch1 (s : SV) (w : World) : Calls Try.prog 48 #[.agg #[.int .i64 s.m, .int .i64 s.n]] w fun e w' => e = .returned (.bool (badSlot s)) ∧ Below w.heap.size w w' := by
  go_enter Try.func48, Try.ntmps48
  go_wp2_with (go_at_call 49; refine (impl_isSlot s _).mono ?_; rintro e w1 ⟨rfl, hb1⟩)
  go_ret
  exact ⟨rfl, (by repeat (first | (with_reducible exact Below.refl _ _) | (with_reducible assumption) | (with_reducible refine balloc ?_ _) | (with_reducible refine bdrew ?_) | (with_reducible refine bdrewN ?_ _) | (with_reducible refine bset ?_ (by first | omega | (simp; done) | (simp; omega)) _) | (with_reducible refine bstep ?_ (by assumption))))⟩
theorem slices_IndexFuncSlot (v : Value) (xs : List SV) (w : World) (B : Nat) (hv : Slots w B v xs) :
    Calls Try.prog 73 #[v, .func (.func 48) #[] #[]] w fun e w' => e = .returned (.int .i64 (idxP badSlot xs 0)) ∧ Below w.heap.size w w' := by
  have hm := Recs.room hv
  unfold maxLen at hm
  obtain ⟨A, c, rfl, ha⟩ := hv.shape
  have HA := Lib.hid ha
  clear ha hv
  go_enter Try.func73, Try.ntmps73
  go_wp2
  go_loopw [8] (fun i wr => ∃ k : Nat, k ≤ xs.length ∧ i = .int .i64 k ∧ Hid (idxP badSlot xs 0 = idxP badSlot (xs.drop k) k) ∧ Hid (Below w.heap.size w wr)) (fun i _ => xs.length - (intOf i).toNat)
  case atStart => exact ⟨0, Nat.zero_le _, rfl, rfl, Below.refl _ _⟩
  case round =>
    obtain ⟨k, hk, rfl, hi, hb⟩ := hrel
    by_cases hlt : k < xs.length
    · obtain ⟨g, rfl, _, hgl, hc, _⟩ := HA.out k hlt
      have HS := Lib.hid (idxP_step badSlot SV.z xs k hlt)
      generalize xs.getD k SV.z = s at *
      have CR : RangeX wr ⟨g, k * 2, none⟩ [Value.int .i64 s.m, Value.int .i64 s.n] := RangeX.of (range_below hc hb.out)
      clear hc
      cases hs : badSlot s
      · go_wp2_with (first | ((with_reducible refine wp_ldX ?_ row_slot CR ?_); (focus (refine ⟨rfl, ⟨_, rfl, ?_⟩⟩; simp [go_sem]; done))) | (go_at_call 48; refine (impl_IsValidSketch1 s _).mono ?_; rintro e w2 ⟨rfl, hb2⟩; have HB := Lib.hid (bstep hb.out hb2); clear hb2 CR))
        go_roundw
        case rel => exact ⟨k + 1, by omega, by go_num, by show _ = _; rw [hi.out, HS.out, hs]; rfl, HB⟩
        case measure => simp [intOf]; omega
      · go_wp2_with (first | ((with_reducible refine wp_ldX ?_ row_slot CR ?_); (focus (refine ⟨rfl, ⟨_, rfl, ?_⟩⟩; simp [go_sem]; done))) | (go_at_call 48; refine (impl_IsValidSketch1 s _).mono ?_; rintro e w2 ⟨rfl, hb2⟩; have HB := Lib.hid (bstep hb.out hb2); clear hb2 CR))
        go_ret
        exact ⟨ret_int (by rw [hi.out, HS.out, hs]; rfl), HB.out⟩
    · go_wp2
      go_ret
      exact ⟨ret_int (by rw [hi.out, List.drop_of_length_le (by omega)]; rfl), hb.out⟩
theorem slices_ContainsFuncSlot (v : Value) (xs : List SV) (w : World) (B : Nat) (hv : Slots w B v xs) :
    Calls Try.prog 47 #[v, .func (.func 48) #[] #[]] w fun e w' => e = .returned (.bool (xs.any badSlot)) ∧ Below w.heap.size w w' := by
  have HI := Lib.hid (slices_IndexFuncSlot v xs w B hv)
  have he := idxP_any badSlot xs 0
  generalize idxP badSlot xs 0 = i at *
  go_enter Try.func47, Try.ntmps47
  go_wp2_with (go_at_call 73; refine HI.out.mono ?_; rintro e w2 ⟨rfl, hb2⟩)
  go_ret
  exact ⟨rfl, hb2⟩
/-! ### the places -/
def AV.off1 (a : AV) (k : Nat) : Bool := a.cellAt k != 1
theorem cellAt_is (a : AV) (k : Nat) (h : k < 15) : (#[Value.int .i64 a.f.d, Value.int .i64 a.f.l, Value.int .i64 a.f.a, Value.int .i64 a.f.b, Value.int .i64 a.o, Value.int .i64 a.l, Value.int .i64 a.t, Value.int .i64 a.on.c, Value.int .i64 a.on.k, Value.int .i64 a.on.a, Value.int .i64 a.on.t, Value.int .i64 a.ar.c, Value.int .i64 a.ar.k, Value.int .i64 a.ar.a, Value.int .i64 a.ar.t] : Array Value)[k]? = some (.int .i64 (a.cellAt k)) := by
  match k, h with
  | 0, _ | 1, _ | 2, _ | 3, _ | 4, _ | 5, _ | 6, _ | 7, _ | 8, _ | 9, _ | 10, _ | 11, _ | 12, _ | 13, _ | 14, _ => rfl
theorem impl_IsValidSketch2 (g k : Nat) (n : Int) (w : World) (hc : w.cell? ⟨g, k, none⟩ = some (.int .i64 n)) : Calls Try.prog 51 #[.pointer (some ⟨g, k, none⟩)] w fun e w' => e = .returned (.bool (n != 1)) ∧ w = w' := by
  go_enter Try.func51, Try.ntmps51
  go_wp2
  go_ret
  exact ⟨rfl, rfl⟩
theorem Ptrs.shape {g : Nat} {w : World} {B : Nat} {v : Value} {ks : List Nat} (h : Ptrs g w B v ks) : ∃ A c, v = .slice A ks.length c ∧ ∀ k, k < ks.length → ∃ q, A = some ⟨q, 0, none⟩ ∧ B ≤ q ∧ q < w.heap.size ∧ w.cell? ⟨q, k, none⟩ = some (.pointer (some ⟨g, ks.getD k 0, none⟩)) := by
  obtain ⟨A, c, hv, ha⟩ := Recs.shape (n := 1) (f := ptrRow g) (fun _ => rfl) 0 h
  refine ⟨A, c, hv, fun k hk => ?_⟩
  obtain ⟨q, hq, h1, h2, h3, _⟩ := ha k hk
  refine ⟨q, hq, h1, h2, ?_⟩
  have := h3 0 _ rfl
  simpa using this
theorem slices_IndexFuncPtr (a : AV) (g : Nat) (v : Value) (ks : List Nat) (w : World) (B : Nat) (hv : Ptrs g w B v ks) (ha : ArmsAt a g w) (hk : ∀ k, k < ks.length → ks.getD k 0 < 15) :
    Calls Try.prog 75 #[v, .func (.func 51) #[] #[]] w fun e w' => e = .returned (.int .i64 (idxP a.off1 ks 0)) ∧ w = w' := by
  have hm := Recs.room hv
  unfold maxLen at hm
  obtain ⟨A, c, rfl, hs⟩ := hv.shape
  have HA := Lib.hid hs
  have HC : Hid (∀ k, k < ks.length → w.cell? ⟨g, ks.getD k 0, none⟩ = some (.int .i64 (a.cellAt (ks.getD k 0)))) := fun k h => (ha.2 _ (hk k h)).trans (cellAt_is a _ (hk k h))
  clear hs hv ha hk
  go_enter Try.func75, Try.ntmps75
  go_wp2
  go_loop [8] (fun i => ∃ k : Nat, k ≤ ks.length ∧ i = .int .i64 k ∧ Hid (idxP a.off1 ks 0 = idxP a.off1 (ks.drop k) k)) (fun i => ks.length - (intOf i).toNat)
  case atStart => exact ⟨0, Nat.zero_le _, rfl, rfl⟩
  case round =>
    obtain ⟨k, hk, rfl, hi⟩ := hrel
    by_cases hlt : k < ks.length
    · obtain ⟨q, rfl, _, _, d0⟩ := HA.out k hlt
      have CK := Lib.hid (HC.out k hlt)
      have HS := Lib.hid (idxP_step a.off1 0 ks k hlt)
      have HO : Hid (a.off1 (ks.getD k 0) = (a.cellAt (ks.getD k 0) != 1)) := rfl
      generalize hn : a.cellAt (ks.getD k 0) = n at *
      generalize ks.getD k 0 = p at *
      clear hn
      cases hs : (n != 1)
      · go_wp2_with (go_at_call 51; refine (impl_IsValidSketch2 g p n _ CK.out).mono ?_; rintro e w' ⟨rfl, rfl⟩)
        go_round
        case rel => exact ⟨k + 1, by omega, by go_num, by show _ = _; rw [hi.out, HS.out, HO.out, hs]; rfl⟩
        case measure => simp [intOf]; omega
      · go_wp2_with (go_at_call 51; refine (impl_IsValidSketch2 g p n _ CK.out).mono ?_; rintro e w' ⟨rfl, rfl⟩)
        go_ret
        exact ⟨ret_int (by rw [hi.out, HS.out, HO.out, hs]; rfl), rfl⟩
    · go_wp2
      go_ret
      exact ⟨ret_int (by rw [hi.out, List.drop_of_length_le (by omega)]; rfl), rfl⟩
theorem slices_ContainsFuncPtr (a : AV) (g : Nat) (v : Value) (ks : List Nat) (w : World) (B : Nat) (hv : Ptrs g w B v ks) (ha : ArmsAt a g w) (hk : ∀ k, k < ks.length → ks.getD k 0 < 15) :
    Calls Try.prog 50 #[v, .func (.func 51) #[] #[]] w fun e w' => e = .returned (.bool (ks.any a.off1)) ∧ w = w' := by
  have HI := Lib.hid (slices_IndexFuncPtr a g v ks w B hv ha hk)
  have he := idxP_any a.off1 ks 0
  generalize idxP a.off1 ks 0 = i at *
  go_enter Try.func50, Try.ntmps50
  go_wp2_with (go_at_call 75; refine HI.out.mono ?_; rintro e w' ⟨rfl, rfl⟩)
  go_ret
  exact ⟨rfl, rfl⟩
theorem any_off (a : AV) : a.places.any a.off1 = !a.golden := any_not (fun k => a.cellAt k == 1) a.places
theorem any_bad (xs : List SV) : xs.any badSlot = !xs.all slotOk := any_not slotOk xs
theorem armsAt_blk {a : AV} {v : Value} {g : Nat} {t : TypeId} {w : World} (h : Blk w g t #[Value.int .i64 a.f.d, Value.int .i64 a.f.l, Value.int .i64 a.f.a, Value.int .i64 a.f.b, Value.int .i64 a.o, Value.int .i64 a.l, Value.int .i64 a.t, Value.int .i64 a.on.c, Value.int .i64 a.on.k, Value.int .i64 a.on.a, Value.int .i64 a.on.t, Value.int .i64 a.ar.c, Value.int .i64 a.ar.k, Value.int .i64 a.ar.a, Value.int .i64 a.ar.t, v]) : ArmsAt a g w := ⟨h.lt, fun i hi => by
  rw [h.cell i]
  match i, hi with
  | 0, _ | 1, _ | 2, _ | 3, _ | 4, _ | 5, _ | 6, _ | 7, _ | 8, _ | 9, _ | 10, _ | 11, _ | 12, _ | 13, _ | 14, _ => rfl⟩
theorem skOk_rest {a : AV} {xs : List SV} {b : Bool} (h1 : a.ok = true) (h2 : a.places.any a.off1 = !a.golden) (h3 : xs.length = a.places.length) (h4 : xs.all slotOk = true) (h5 : lastOk xs = true) : skOk a xs = !(a.places.any a.off1) := by
  unfold skOk
  rw [h1, h2, h4, h5, h3]
  simp
set_option maxHeartbeats 2000000 in
theorem impl_IsValidSketch (a : AV) (v : Value) (xs : List SV) (w : World) (B : Nat) (hv : Slots w B v xs) : Calls Try.prog 24 #[.agg #[Value.int .i64 a.f.d, Value.int .i64 a.f.l, Value.int .i64 a.f.a, Value.int .i64 a.f.b, Value.int .i64 a.o, Value.int .i64 a.l, Value.int .i64 a.t, Value.int .i64 a.on.c, Value.int .i64 a.on.k, Value.int .i64 a.on.a, Value.int .i64 a.on.t, Value.int .i64 a.ar.c, Value.int .i64 a.ar.k, Value.int .i64 a.ar.a, Value.int .i64 a.ar.t, v]] w fun e w' => e = .returned (.bool (skOk a xs)) ∧ Below w.heap.size w w' := by
  have hm := Recs.room hv
  unfold maxLen at hm
  obtain ⟨A, c, rfl, ha⟩ := hv.shape
  have HA := Lib.hid ha
  clear ha
  go_enter Try.func24, Try.ntmps24
  go_upto_region 1 with fail
  have B1 := blk_one w 40 #[Value.int .i64 a.f.d, Value.int .i64 a.f.l, Value.int .i64 a.f.a, Value.int .i64 a.f.b, Value.int .i64 a.o, Value.int .i64 a.l, Value.int .i64 a.t, Value.int .i64 a.on.c, Value.int .i64 a.on.k, Value.int .i64 a.on.a, Value.int .i64 a.on.t, Value.int .i64 a.ar.c, Value.int .i64 a.ar.k, Value.int .i64 a.ar.a, Value.int .i64 a.ar.t, .slice A xs.length c]
  have hW : Below w.heap.size w (w.alloc (.cells #[Value.int .i64 a.f.d, Value.int .i64 a.f.l, Value.int .i64 a.f.a, Value.int .i64 a.f.b, Value.int .i64 a.o, Value.int .i64 a.l, Value.int .i64 a.t, Value.int .i64 a.on.c, Value.int .i64 a.on.k, Value.int .i64 a.on.a, Value.int .i64 a.on.t, Value.int .i64 a.ar.c, Value.int .i64 a.ar.k, Value.int .i64 a.ar.a, Value.int .i64 a.ar.t, .slice A xs.length c] 40)) := (by repeat (first | (with_reducible exact Below.refl _ _) | (with_reducible assumption) | (with_reducible refine balloc ?_ _) | (with_reducible refine bdrew ?_) | (with_reducible refine bdrewN ?_ _) | (with_reducible refine bset ?_ (by first | omega | (simp; done) | (simp; omega)) _) | (with_reducible refine bstep ?_ (by assumption))))
  show Code.wp _ _ _ _ (w.alloc (.cells #[Value.int .i64 a.f.d, Value.int .i64 a.f.l, Value.int .i64 a.f.a, Value.int .i64 a.f.b, Value.int .i64 a.o, Value.int .i64 a.l, Value.int .i64 a.t, Value.int .i64 a.on.c, Value.int .i64 a.on.k, Value.int .i64 a.on.a, Value.int .i64 a.on.t, Value.int .i64 a.ar.c, Value.int .i64 a.ar.k, Value.int .i64 a.ar.a, Value.int .i64 a.ar.t, .slice A xs.length c] 40))
  generalize w.alloc (.cells #[Value.int .i64 a.f.d, Value.int .i64 a.f.l, Value.int .i64 a.f.a, Value.int .i64 a.f.b, Value.int .i64 a.o, Value.int .i64 a.l, Value.int .i64 a.t, Value.int .i64 a.on.c, Value.int .i64 a.on.k, Value.int .i64 a.on.a, Value.int .i64 a.on.t, Value.int .i64 a.ar.c, Value.int .i64 a.ar.k, Value.int .i64 a.ar.a, Value.int .i64 a.ar.t, .slice A xs.length c] 40) = W at *
  have hv1 := hv.below hW
  have C1 : RangeX W ⟨w.heap.size, 0, none⟩ [Value.int .i64 a.f.d, Value.int .i64 a.f.l, Value.int .i64 a.f.a, Value.int .i64 a.f.b, Value.int .i64 a.o, Value.int .i64 a.l, Value.int .i64 a.t, Value.int .i64 a.on.c, Value.int .i64 a.on.k, Value.int .i64 a.on.a, Value.int .i64 a.on.t, Value.int .i64 a.ar.c, Value.int .i64 a.ar.k, Value.int .i64 a.ar.a, Value.int .i64 a.ar.t] := Blk.head (R := [.slice A xs.length c]) B1
  cases hok : a.ok
  · go_wp2_with (first | ((with_reducible refine wp_ldX ?_ row_impl C1 ?_); (focus (refine ⟨rfl, ⟨_, rfl, ?_⟩⟩; simp [go_sem]; done))) | (go_at_call 38; refine (impl_IsValidArms a _).mono ?_; rintro e w1 ⟨rfl, hb1⟩; replace hW := bstep hW hb1; clear hb1 C1))
    go_ret
    exact ⟨by unfold skOk; rw [hok]; rfl, hW⟩
  have HK : Hid (xs.any badSlot = !xs.all slotOk) := any_bad xs
  have HL : Hid (a.places.any a.off1 = !a.golden) := any_off a
  have H0 : Hid (Blk W w.heap.size 40 #[Value.int .i64 a.f.d, Value.int .i64 a.f.l, Value.int .i64 a.f.a, Value.int .i64 a.f.b, Value.int .i64 a.o, Value.int .i64 a.l, Value.int .i64 a.t, Value.int .i64 a.on.c, Value.int .i64 a.on.k, Value.int .i64 a.on.a, Value.int .i64 a.on.t, Value.int .i64 a.ar.c, Value.int .i64 a.ar.k, Value.int .i64 a.ar.a, Value.int .i64 a.ar.t, .slice A xs.length c] ∧ Below w.heap.size w W) := ⟨B1, hW⟩
  cases hb : xs.any badSlot
  all_goals
    go_upto_if 12 with (first
      | ((with_reducible refine wp_ldX ?_ row_impl C1 ?_); (focus (refine ⟨rfl, ⟨_, rfl, ?_⟩⟩; simp [go_sem]; done)))
      | (go_at_call 38; refine (impl_IsValidArms a _).mono ?_; rintro e w1 ⟨rfl, hb1⟩; replace H0 := Lib.hid (And.intro (H0.out.1.below hb1) (bstep H0.out.2 hb1)); clear hb1 C1 hW B1; obtain ⟨c1, z1⟩ := H0.out.1.facts)
      | (go_at_call 47; refine (slices_ContainsFuncSlot _ xs _ _ (hv.below H0.out.2)).mono ?_; rintro e w2 ⟨rfl, hb2⟩; replace H0 := Lib.hid (And.intro (H0.out.1.below hb2) (bstep H0.out.2 hb2)); clear hb2 c1 z1))
  rotate_left
  · go_wp2
    go_ret
    have : xs.all slotOk = false := by have := HK.out; rw [hb] at this; simpa using this
    exact ⟨by unfold skOk; rw [this]; simp, H0.out.2⟩
  have hall : xs.all slotOk = true := by have := HK.out; rw [hb] at this; simpa using this
  by_cases hl : xs.length = a.places.length
  rotate_left
  · have hl1 : ((a.places.length : Int) != (xs.length : Int)) = true := by simp; omega
    have hp3 := places_len a
    go_upto_region 4 with (go_at_call 44; refine (impl_slotTinctures a w.heap.size _ (armsAt_blk H0.out.1)).mono ?_; rintro e w3 ⟨vp, rfl, hp, hb3⟩; obtain ⟨P, cp, rfl, _⟩ := hp.shape; replace H0 := Lib.hid (And.intro (H0.out.1.below hb3) (bstep H0.out.2 hb3)); clear hb3; obtain ⟨c1, z1⟩ := H0.out.1.facts)
    go_wp2
    go_ret
    have : (xs.length == a.places.length) = false := by simpa using hl
    exact ⟨by unfold skOk; rw [this]; simp, H0.out.2⟩
  have hp3 := places_len a
  have HLE := Lib.hid hl
  have HG := Lib.hid hv
  have HREST : Hid (lastOk xs = true → skOk a xs = !(a.places.any a.off1)) := fun h5 => skOk_rest (b := true) hok HL.out hl hall h5
  clear hl hv hv1 hall hok hb HK
  by_cases hz : xs.length = 0
  · have HLAST : Hid (lastOk xs = true) := by show _ = _; unfold lastOk; rw [hz]; rfl
    have HZ := Lib.hid hz
    clear hz
    go_upto_region 6 with (go_at_call 44; refine (impl_slotTinctures a w.heap.size _ (armsAt_blk H0.out.1)).mono ?_; rintro e w3 ⟨vp, rfl, hp, hb3⟩; obtain ⟨P, cp, hvp, _⟩ := hp.shape; rw [← HLE.out, HZ.out] at hvp; subst hvp; replace H0 := Lib.hid (And.intro (H0.out.1.below hb3) (bstep H0.out.2 hb3)); clear hb3; obtain ⟨c1, z1⟩ := H0.out.1.facts; have hzz : xs.length = 0 := HZ.out)
    go_wp2_with (go_at_call 50; refine (slices_ContainsFuncPtr a w.heap.size _ a.places _ _ hp (armsAt_blk H0.out.1) (fun k hk => places_lt hk)).mono ?_; rintro e w' ⟨rfl, rfl⟩)
    go_ret
    exact ⟨by rw [HREST.out HLAST.out]; rfl, H0.out.2⟩
  · obtain ⟨m, hzm⟩ : ∃ m, xs.length = m + 1 := ⟨xs.length - 1, by omega⟩
    have HBAD : Hid ((xs.getD m SV.z).m = 5 → skOk a xs = false) := skOk_last hzm.symm
    have HFINE : Hid ((xs.getD m SV.z).m ≠ 5 → lastOk xs = true) := fun h => by
      unfold lastOk
      rw [show xs.length - 1 = m by omega]
      simp only [Bool.not_eq_true', Bool.and_eq_false_iff]
      exact .inr (by simpa using h)
    obtain ⟨g, rfl, _, hgl, hc, _⟩ := HA.out m (by omega)
    have CS : Hid (∀ w', Below w.heap.size w w' → w'.rangeAt g (m * 2) (xs.getD m SV.z).row) := fun w' h => range_below hc h
    clear HA hc hz
    generalize xs.getD m SV.z = s at *
    generalize xs.length = n at *
    subst hzm
    have hn3 : m < 3 := by have := HLE.out; omega
    clear hm hp3
    cases h5 : (s.m == 5)
    · have HLAST := Lib.hid (HFINE.out (by simpa using h5))
      go_upto_region 6 with (go_at_call 44; refine (impl_slotTinctures a w.heap.size _ (armsAt_blk H0.out.1)).mono ?_; rintro e w3 ⟨vp, rfl, hp, hb3⟩; obtain ⟨P, cp, hvp, _⟩ := hp.shape; rw [← HLE.out] at hvp; subst hvp; replace H0 := Lib.hid (And.intro (H0.out.1.below hb3) (bstep H0.out.2 hb3)); clear hb3; obtain ⟨c1, z1⟩ := H0.out.1.facts; have d0 : w3.cell? ⟨g, m * 2, none⟩ = some (.int .i64 s.m) := CS.out w3 H0.out.2 0 _ rfl)
      go_wp2_with (go_at_call 50; refine (slices_ContainsFuncPtr a w.heap.size _ a.places _ _ hp (armsAt_blk H0.out.1) (fun k hk => places_lt hk)).mono ?_; rintro e w' ⟨rfl, rfl⟩)
      go_ret
      exact ⟨by rw [HREST.out HLAST.out]; rfl, H0.out.2⟩
    · have HE := Lib.hid (HBAD.out (by simpa using h5))
      go_upto_region 4 with (go_at_call 44; refine (impl_slotTinctures a w.heap.size _ (armsAt_blk H0.out.1)).mono ?_; rintro e w3 ⟨vp, rfl, hp, hb3⟩; obtain ⟨P, cp, hvp, _⟩ := hp.shape; rw [← HLE.out] at hvp; subst hvp; replace H0 := Lib.hid (And.intro (H0.out.1.below hb3) (bstep H0.out.2 hb3)); clear hb3; obtain ⟨c1, z1⟩ := H0.out.1.facts; have d0 : w3.cell? ⟨g, m * 2, none⟩ = some (.int .i64 s.m) := CS.out w3 H0.out.2 0 _ rfl)
      go_wp2
      go_ret
      exact ⟨by rw [HE.out]; rfl, H0.out.2⟩
end Go.Proofs.Ytonkblhajbphmaa
