/- Slots and sketches: what the laws' helpers do with them. Conditions: as each theorem says. -/
import Derived.Test.YtonkblhajbphmaaRows
import Derived.Test.YtonkblhajbphmaaSimp
namespace Go.Proofs.Ytonkblhajbphmaa
set_option linter.unusedSimpArgs false
set_option linter.unusedVariables false
open Go.ChangeShapes Go.WideShapes Go.ChangeAt Go.RowKit

structure SV where
  m : Int
  n : Int
def SV.row (s : SV) : List Value := [Value.int .i64 s.m, Value.int .i64 s.n]
def SV.z : SV := ⟨0, 0⟩
theorem SV.row_len (s : SV) : s.row.length = 2 := rfl
def ReadsK (w : World) (A : Option Addr) (xs : List SV) : Prop := ∀ k, k < xs.length → ∃ x : Addr, A = some x ∧ RangeX w (x.add (k * 2)) (xs.getD k SV.z).row
theorem ReadsK.below {w w' : World} {A : Option Addr} {xs : List SV} (h : ReadsK w A xs) (hb : Below w.heap.size w w') : ReadsK w' A xs := fun k hk => by
  obtain ⟨x, hx, hc⟩ := h k hk
  exact ⟨x, hx, hc.below hb⟩
theorem slot_info : (Try.prog.info? 79).map (fun i => (i.zero, i.size, i.bytes)) = some (some (.agg #[Value.int .i64 SV.z.m, Value.int .i64 SV.z.n]), 2, 16) := by kernel_rfl
theorem row_slot : RowTy Try.prog 79 2 := ⟨⟨_, Try.underlying79, rfl⟩, by kernel_rfl⟩
theorem row_slotL : RowTy Try.prog 91 2 := ⟨⟨_, Try.underlying91, rfl⟩, by kernel_rfl⟩
theorem row_sk : RowTy Try.prog 40 16 := ⟨⟨_, Try.underlying40, rfl⟩, by kernel_rfl⟩
theorem row_skL : RowTy Try.prog 30 16 := ⟨⟨_, Try.underlying30, rfl⟩, by kernel_rfl⟩
def Slots (w : World) (B : Nat) (v : Value) (xs : List SV) : Prop := Recs 79 2 SV.row w B v xs
theorem Slots.below {w w' : World} {B : Nat} {v : Value} {xs : List SV} (h : Slots w B v xs) (hb : Below w.heap.size w w') : Slots w' B v xs := Recs.below h hb
theorem Slots.base {w : World} {B B' : Nat} {v : Value} {xs : List SV} (h : Slots w B v xs) (hB : B' ≤ B) : Slots w B' v xs := Recs.base h hB
theorem Slots.shape {w : World} {B : Nat} {v : Value} {xs : List SV} (h : Slots w B v xs) : ∃ A c, v = .slice A xs.length c ∧ ∀ k, k < xs.length → ∃ g, A = some ⟨g, 0, none⟩ ∧ B ≤ g ∧ g < w.heap.size ∧
    w.rangeAt g (k * 2) (xs.getD k SV.z).row ∧ ∀ j, w.frozen? ⟨g, j, none⟩ = false := Recs.shape SV.row_len SV.z h
theorem laws_szSlotS (A : Option Addr) (n c : Nat) (hn : n ≤ maxLen) (w : World) : Calls Try.prog 25 #[.slice A n c, .int .i64 1048576] w fun e w' => e = .returned (.int .i64 (if n ≤ 1048576 then 1048576 - (n : Int) else -1)) ∧ w' = w := by
  unfold maxLen at hn
  by_cases h : n ≤ 1048576
  · rw [if_pos h]
    have h' : ¬ (1048576 - (n : Int) < 0) := by omega
    go_enter Try.func25, Try.ntmps25
    go_wp2
    go_ret
    exact ⟨rfl, rfl⟩
  · rw [if_neg h]
    have h' : 1048576 - (n : Int) < 0 := by omega
    go_enter Try.func25, Try.ntmps25
    go_wp2
    go_ret
    exact ⟨rfl, rfl⟩
theorem laws_szSketch (a : AV) (A : Option Addr) (n c : Nat) (hn : n ≤ maxLen) (w : World) : Calls Try.prog 7 #[.agg #[Value.int .i64 a.f.d, Value.int .i64 a.f.l, Value.int .i64 a.f.a, Value.int .i64 a.f.b, Value.int .i64 a.o, Value.int .i64 a.l, Value.int .i64 a.t, Value.int .i64 a.on.c, Value.int .i64 a.on.k, Value.int .i64 a.on.a, Value.int .i64 a.on.t, Value.int .i64 a.ar.c, Value.int .i64 a.ar.k, Value.int .i64 a.ar.a, Value.int .i64 a.ar.t, .slice A n c], .int .i64 1048576] w fun e w' => e = .returned (.int .i64 (if n ≤ 1048576 then 1048576 - (n : Int) else -1)) ∧ Below w.heap.size w w' := by
  have HS := Lib.hid (fun w => laws_szSlotS A n c hn w)
  by_cases h : n ≤ 1048576
  · rw [if_pos h] at HS ⊢
    have h' : ¬ (1048576 - (n : Int) < 0) := by omega
    generalize 1048576 - (n : Int) = q at *
    clear h hn
    go_enter Try.func7, Try.ntmps7
    go_wp2_with (go_at_call 25; refine (HS.out _).mono ?_; rintro e w' ⟨rfl, rfl⟩)
    go_ret
    exact ⟨rfl, (by repeat (first | (with_reducible exact Below.refl _ _) | (with_reducible assumption) | (with_reducible refine balloc ?_ _) | (with_reducible refine bdrew ?_) | (with_reducible refine bdrewN ?_ _) | (with_reducible refine bset ?_ (by first | omega | (simp; done) | (simp; omega)) _) | (with_reducible refine bstep ?_ (by assumption))))⟩
  · rw [if_neg h] at HS ⊢
    clear h hn
    go_enter Try.func7, Try.ntmps7
    go_wp2_with (go_at_call 25; refine (HS.out _).mono ?_; rintro e w' ⟨rfl, rfl⟩)
    go_ret
    exact ⟨rfl, (by repeat (first | (with_reducible exact Below.refl _ _) | (with_reducible assumption) | (with_reducible refine balloc ?_ _) | (with_reducible refine bdrew ?_) | (with_reducible refine bdrewN ?_ _) | (with_reducible refine bset ?_ (by first | omega | (simp; done) | (simp; omega)) _) | (with_reducible refine bstep ?_ (by assumption))))⟩
theorem laws_toSlot (x : SV) (w : World) : Calls Try.prog 58 #[.agg #[.int .i64 x.m, .int .i64 x.n]] w fun e w' => e = .returned (.agg #[.int .i64 x.m, .int .i64 x.n]) ∧ Below w.heap.size w w' := by
  go_enter Try.func58, Try.ntmps58
  go_wp2
  go_returns
  exact ⟨rfl, (by repeat (first | (with_reducible exact Below.refl _ _) | (with_reducible assumption) | (with_reducible refine balloc ?_ _) | (with_reducible refine bdrew ?_) | (with_reducible refine bdrewN ?_ _) | (with_reducible refine bset ?_ (by first | omega | (simp; done) | (simp; omega)) _) | (with_reducible refine bstep ?_ (by assumption))))⟩
theorem laws_eqSlot (x : SV) (w : World) : Calls Try.prog 61 #[.agg #[.int .i64 x.m, .int .i64 x.n], .agg #[.int .i64 x.m, .int .i64 x.n]] w fun e w' => e = .returned (.bool true) ∧ Below w.heap.size w w' := by
  go_enter Try.func61, Try.ntmps61
  go_wp2
  go_ret
  exact ⟨rfl, (by repeat (first | (with_reducible exact Below.refl _ _) | (with_reducible assumption) | (with_reducible refine balloc ?_ _) | (with_reducible refine bdrew ?_) | (with_reducible refine bdrewN ?_ _) | (with_reducible refine bset ?_ (by first | omega | (simp; done) | (simp; omega)) _) | (with_reducible refine bstep ?_ (by assumption))))⟩
set_option maxRecDepth 100000 in
set_option maxHeartbeats 1000000 in
theorem laws_toSlotS (A : Option Addr) (n c : Nat) (xs : List SV) (hn : n = xs.length) (w : World) (hr : ReadsK w A xs) (hl : xs.length ≤ 1048576) :
    Calls Try.prog 28 #[.slice A n c] w fun e w' => ∃ v, e = .returned v ∧ Slots w' w.heap.size v xs ∧ Below w.heap.size w w' := by
  subst hn
  obtain ⟨i0, hi0, hz0, hz1, hz2⟩ := info_parts slot_info
  have HR := Lib.hid hr
  clear hr
  go_enter Try.func28, Try.ntmps28
  go_wp2_with (refine wpList_make_full _ rfl _ _ 38 rfl w.heap.size 79 i0 _ 2 Try.underlying38 hi0 hz0 hz1 .i64 .i64 _ _ xs.length rfl rfl rfl rfl (by rw [hz2]; omega) (by unfold maxLen; omega) (Nat.le_refl _) ?_; intro w1 hown hg1)
  have HB : Hid (Below w.heap.size w w1) := (Below.refl _ _).grown hg1 (Nat.le_refl _) (fun k hk => by cases hk)
  have H0 : Hid (Slots w1 w.heap.size (.slice (some ⟨w.heap.size, 0, none⟩) xs.length xs.length) (xs.take 0 ++ (List.replicate xs.length SV.z).drop 0)) := by
    have h1 : Recs 79 2 SV.row w1 w.heap.size (.slice (some ⟨w.heap.size, 0, none⟩) xs.length xs.length) (List.replicate xs.length SV.z) := Recs.made w1 SV.z rfl rfl (by decide) hown
    show Recs _ _ _ _ _ _ _
    simpa using h1
  clear hown hg1
  go_loopw [4] (fun i wr => ∃ k : Nat, k ≤ xs.length ∧ i = .int .i64 k ∧ Hid (Slots wr w.heap.size (.slice (some ⟨w.heap.size, 0, none⟩) xs.length xs.length) (xs.take k ++ (List.replicate xs.length SV.z).drop k)) ∧ Hid (Below w.heap.size w wr)) (fun i _ => xs.length - (intOf i).toNat)
  case atStart => exact ⟨0, Nat.zero_le _, rfl, H0, HB⟩
  case round =>
    obtain ⟨k, hk, rfl, hi, hb⟩ := hrel
    clear H0 HB
    by_cases hlt : k < xs.length
    · obtain ⟨x, rfl, hc⟩ := HR.out k hlt
      have hn : (xs.take k ++ (List.replicate xs.length SV.z).drop k).length = xs.length := by simp; omega
      have HN := Lib.hid hn
      have HS := Lib.hid (take_set SV.z xs (List.replicate xs.length SV.z) k hlt (by simp))
      generalize hq : xs.take k ++ (List.replicate xs.length SV.z).drop k = q at *
      generalize hy : xs.getD k SV.z = y at *
      have C1 : RangeX wr (x.add (k * 2)) [Value.int .i64 y.m, Value.int .i64 y.n] := hc.below hb.out
      clear hc hn hq hy
      go_wp2_with (first
        | ((with_reducible refine wp_ldX ?_ row_slotL C1 ?_); (focus (refine ⟨rfl, ⟨_, rfl, ?_⟩⟩; simp [go_sem]; done)))
        | (go_at_call 58; refine (laws_toSlot y _).mono ?_; rintro e w1 ⟨rfl, hb1⟩; have hi1 : Recs 79 2 SV.row w1 w.heap.size (.slice (some ⟨w.heap.size, 0, none⟩) q.length xs.length) q := by { rw [HN.out]; exact hi.out.below hb1 }; have HT : w1.there w.heap.size (k * 2) (#[Value.int .i64 y.m, Value.int .i64 y.n] : Array Value).size := hi1.there SV.row_len (by rw [HN.out]; exact hlt); have HST := Lib.hid (hi1.stored SV.row_len (k := k) (by rw [HN.out]; exact hlt) y); replace hb := Lib.hid (bstep hb.out hb1); clear hb1 hi hi1 C1)
        | ((with_reducible refine wp_stX (ty := 79) (vs := (#[Value.int .i64 y.m, Value.int .i64 y.n])) ?_ ?_ ?_ HT ?_); (focus (refine ⟨rfl, ⟨_, _, rfl, ?_, rfl⟩⟩; simp [go_sem]; done)); (focus (kernel_rfl)); (focus (simp [Value.oneCell']; done))))
      go_roundw
      case rel =>
        refine ⟨k + 1, by omega, by go_num, ?_, ?_⟩
        · have h3 := HST.out.1
          rw [HS.out, HN.out] at h3
          exact h3
        · exact hb.out.grown HST.out.2 hb.out.size (fun b hb' => by cases hb'; exact Nat.le_refl _)
      case measure => simp [intOf]; omega
    · obtain rfl : k = xs.length := by omega
      go_wp2
      go_ret
      have h6 := hi.out
      refine ⟨_, rfl, ?_, hb.out⟩
      simpa using h6
set_option maxHeartbeats 1000000 in
theorem laws_eqSlotS (v u : Value) (xs : List SV) (w : World) (B B' : Nat) (hv : Slots w B v xs) (hu : Slots w B' u xs) : Calls Try.prog 33 #[v, u] w fun e w' => e = .returned (.bool true) ∧ Below w.heap.size w w' := by
  have hm := Recs.room hv
  unfold maxLen at hm
  obtain ⟨A, c, rfl, ha⟩ := hv.shape
  obtain ⟨A', c', rfl, ha'⟩ := hu.shape
  have HA := Lib.hid ha
  have HA' := Lib.hid ha'
  clear ha ha' hv hu
  go_enter Try.func33, Try.ntmps33
  go_wp2
  go_loopw [5] (fun i wr => ∃ k : Nat, k ≤ xs.length ∧ i = .int .i64 k ∧ Hid (Below w.heap.size w wr)) (fun i _ => xs.length - (intOf i).toNat)
  case atStart => exact ⟨0, Nat.zero_le _, rfl, Below.refl _ _⟩
  case round =>
    obtain ⟨k, hk, rfl, hb⟩ := hrel
    by_cases hlt : k < xs.length
    · obtain ⟨g, rfl, _, hg, hc, hf⟩ := HA.out k hlt
      obtain ⟨g', rfl, _, hg', hc', hf'⟩ := HA'.out k hlt
      generalize xs.getD k SV.z = x at *
      have C1 : Hid (∀ w', Below wr.heap.size wr w' → w'.rangeAt g (k * 2) [Value.int .i64 x.m, Value.int .i64 x.n]) := fun w' h => range_below hc (bstep hb.out h)
      have C2 : Hid (∀ w', Below wr.heap.size wr w' → w'.rangeAt g' (k * 2) [Value.int .i64 x.m, Value.int .i64 x.n]) := fun w' h => range_below hc' (bstep hb.out h)
      clear hc hc' hf hf'
      go_wp2
      refine wp_region_mild0 [true, true, true, true, true, true, true, true, true, true] (by kernel_rfl) (by kernel_rfl) ?_
      refine wpMildL_take rfl ?_
      apply Exists.intro
      refine ⟨fun w' hw' => ?_, ?_⟩
      · go_simp
        with_reducible rfl
      simp only [Act.put, List.setIfInBounds_toArray, List.set_cons_zero, List.set_cons_succ]
      refine wpMildL_take rfl ?_
      apply Exists.intro
      refine ⟨fun w' hw' => ?_, ?_⟩
      · go_simp
        with_reducible rfl
      simp only [Act.put, List.setIfInBounds_toArray, List.set_cons_zero, List.set_cons_succ]
      refine wpMildL_take rfl ?_
      apply Exists.intro
      refine ⟨fun w' hw' => ?_, ?_⟩
      · go_simp
        with_reducible rfl
      simp only [Act.put, List.setIfInBounds_toArray, List.set_cons_zero, List.set_cons_succ]
      refine wpMildL_take rfl ⟨_, mild_loadR _ _ rfl _ _ rfl _ _ (fun w' h => C1.out w' h) Try.underlying79 rfl (by kernel_rfl), ?_⟩
      simp only [Act.put, List.setIfInBounds_toArray, List.set_cons_zero, List.set_cons_succ]
      refine wpMildL_take rfl ?_
      apply Exists.intro
      refine ⟨fun w' hw' => ?_, ?_⟩
      · go_simp
        with_reducible rfl
      simp only [Act.put, List.setIfInBounds_toArray, List.set_cons_zero, List.set_cons_succ]
      refine wpMildL_take rfl ?_
      apply Exists.intro
      refine ⟨fun w' hw' => ?_, ?_⟩
      · go_simp
        with_reducible rfl
      simp only [Act.put, List.setIfInBounds_toArray, List.set_cons_zero, List.set_cons_succ]
      refine wpMildL_take rfl ?_
      apply Exists.intro
      refine ⟨fun w' hw' => ?_, ?_⟩
      · go_simp
        with_reducible rfl
      simp only [Act.put, List.setIfInBounds_toArray, List.set_cons_zero, List.set_cons_succ]
      refine wpMildL_take rfl ⟨_, mild_loadR _ _ rfl _ _ rfl _ _ (fun w' h => C2.out w' h) Try.underlying79 rfl (by kernel_rfl), ?_⟩
      simp only [Act.put, List.setIfInBounds_toArray, List.set_cons_zero, List.set_cons_succ]
      refine wpMildL_take rfl ?_
      apply Exists.intro
      refine ⟨fun w' hw' => ?_, ?_⟩
      · go_simp
        exact laws_eqSlot x _
      simp only [Act.put, List.setIfInBounds_toArray, List.set_cons_zero, List.set_cons_succ]
      refine wpMildL_take rfl ?_
      apply Exists.intro
      refine ⟨fun w' hw' => ?_, ?_⟩
      · go_simp
        with_reducible rfl
      simp only [Act.put, List.setIfInBounds_toArray, List.set_cons_zero, List.set_cons_succ]
      refine wpMildL_nil ?_
      intro w1 hb1
      have HB := Lib.hid (bstep hb.out hb1)
      clear hb1 hb C1 C2
      go_wp2
      go_roundw
      case rel => exact ⟨k + 1, by omega, by go_num, HB⟩
      case measure => simp [intOf]; omega
    · go_wp2
      go_ret
      exact ⟨rfl, hb.out⟩
set_option maxHeartbeats 1000000 in
theorem laws_toSketch (a : AV) (A : Option Addr) (n c : Nat) (xs : List SV) (hn : n = xs.length) (w : World) (hr : ReadsK w A xs) (hl : xs.length ≤ 1048576) :
    Calls Try.prog 9 #[.agg #[Value.int .i64 a.f.d, Value.int .i64 a.f.l, Value.int .i64 a.f.a, Value.int .i64 a.f.b, Value.int .i64 a.o, Value.int .i64 a.l, Value.int .i64 a.t, Value.int .i64 a.on.c, Value.int .i64 a.on.k, Value.int .i64 a.on.a, Value.int .i64 a.on.t, Value.int .i64 a.ar.c, Value.int .i64 a.ar.k, Value.int .i64 a.ar.a, Value.int .i64 a.ar.t, .slice A n c]] w fun e w' => ∃ v, e = .returned (.agg #[Value.int .i64 a.f.d, Value.int .i64 a.f.l, Value.int .i64 a.f.a, Value.int .i64 a.f.b, Value.int .i64 a.o, Value.int .i64 a.l, Value.int .i64 a.t, Value.int .i64 a.on.c, Value.int .i64 a.on.k, Value.int .i64 a.on.a, Value.int .i64 a.on.t, Value.int .i64 a.ar.c, Value.int .i64 a.ar.k, Value.int .i64 a.ar.a, Value.int .i64 a.ar.t, v]) ∧ Slots w' w.heap.size v xs ∧ Below w.heap.size w w' := by
  have HR := Lib.hid hr
  have HL := Lib.hid hl
  have HN := Lib.hid hn
  clear hr hl hn
  go_enter Try.func9, Try.ntmps9
  go_upto_region 2 with fail
  obtain ⟨B1, B2, B3⟩ := blk_three w 30 40 40 #[Value.int .i64 a.f.d, Value.int .i64 a.f.l, Value.int .i64 a.f.a, Value.int .i64 a.f.b, Value.int .i64 a.o, Value.int .i64 a.l, Value.int .i64 a.t, Value.int .i64 a.on.c, Value.int .i64 a.on.k, Value.int .i64 a.on.a, Value.int .i64 a.on.t, Value.int .i64 a.ar.c, Value.int .i64 a.ar.k, Value.int .i64 a.ar.a, Value.int .i64 a.ar.t, .slice A n c] #[Value.int .i64 AV.none.f.d, Value.int .i64 AV.none.f.l, Value.int .i64 AV.none.f.a, Value.int .i64 AV.none.f.b, Value.int .i64 AV.none.o, Value.int .i64 AV.none.l, Value.int .i64 AV.none.t, Value.int .i64 AV.none.on.c, Value.int .i64 AV.none.on.k, Value.int .i64 AV.none.on.a, Value.int .i64 AV.none.on.t, Value.int .i64 AV.none.ar.c, Value.int .i64 AV.none.ar.k, Value.int .i64 AV.none.ar.a, Value.int .i64 AV.none.ar.t, .slice none 0 0] #[Value.int .i64 AV.none.f.d, Value.int .i64 AV.none.f.l, Value.int .i64 AV.none.f.a, Value.int .i64 AV.none.f.b, Value.int .i64 AV.none.o, Value.int .i64 AV.none.l, Value.int .i64 AV.none.t, Value.int .i64 AV.none.on.c, Value.int .i64 AV.none.on.k, Value.int .i64 AV.none.on.a, Value.int .i64 AV.none.on.t, Value.int .i64 AV.none.ar.c, Value.int .i64 AV.none.ar.k, Value.int .i64 AV.none.ar.a, Value.int .i64 AV.none.ar.t, .slice none 0 0]
  have hW : Below w.heap.size w (((w.alloc (.cells #[Value.int .i64 a.f.d, Value.int .i64 a.f.l, Value.int .i64 a.f.a, Value.int .i64 a.f.b, Value.int .i64 a.o, Value.int .i64 a.l, Value.int .i64 a.t, Value.int .i64 a.on.c, Value.int .i64 a.on.k, Value.int .i64 a.on.a, Value.int .i64 a.on.t, Value.int .i64 a.ar.c, Value.int .i64 a.ar.k, Value.int .i64 a.ar.a, Value.int .i64 a.ar.t, .slice A n c] 30)).alloc (.cells #[Value.int .i64 AV.none.f.d, Value.int .i64 AV.none.f.l, Value.int .i64 AV.none.f.a, Value.int .i64 AV.none.f.b, Value.int .i64 AV.none.o, Value.int .i64 AV.none.l, Value.int .i64 AV.none.t, Value.int .i64 AV.none.on.c, Value.int .i64 AV.none.on.k, Value.int .i64 AV.none.on.a, Value.int .i64 AV.none.on.t, Value.int .i64 AV.none.ar.c, Value.int .i64 AV.none.ar.k, Value.int .i64 AV.none.ar.a, Value.int .i64 AV.none.ar.t, .slice none 0 0] 40)).alloc (.cells #[Value.int .i64 AV.none.f.d, Value.int .i64 AV.none.f.l, Value.int .i64 AV.none.f.a, Value.int .i64 AV.none.f.b, Value.int .i64 AV.none.o, Value.int .i64 AV.none.l, Value.int .i64 AV.none.t, Value.int .i64 AV.none.on.c, Value.int .i64 AV.none.on.k, Value.int .i64 AV.none.on.a, Value.int .i64 AV.none.on.t, Value.int .i64 AV.none.ar.c, Value.int .i64 AV.none.ar.k, Value.int .i64 AV.none.ar.a, Value.int .i64 AV.none.ar.t, .slice none 0 0] 40)) := (by repeat (first | (with_reducible exact Below.refl _ _) | (with_reducible assumption) | (with_reducible refine balloc ?_ _) | (with_reducible refine bdrew ?_) | (with_reducible refine bdrewN ?_ _) | (with_reducible refine bset ?_ (by first | omega | (simp; done) | (simp; omega)) _) | (with_reducible refine bstep ?_ (by assumption))))
  show Code.wp _ _ _ _ (((w.alloc (.cells #[Value.int .i64 a.f.d, Value.int .i64 a.f.l, Value.int .i64 a.f.a, Value.int .i64 a.f.b, Value.int .i64 a.o, Value.int .i64 a.l, Value.int .i64 a.t, Value.int .i64 a.on.c, Value.int .i64 a.on.k, Value.int .i64 a.on.a, Value.int .i64 a.on.t, Value.int .i64 a.ar.c, Value.int .i64 a.ar.k, Value.int .i64 a.ar.a, Value.int .i64 a.ar.t, .slice A n c] 30)).alloc (.cells #[Value.int .i64 AV.none.f.d, Value.int .i64 AV.none.f.l, Value.int .i64 AV.none.f.a, Value.int .i64 AV.none.f.b, Value.int .i64 AV.none.o, Value.int .i64 AV.none.l, Value.int .i64 AV.none.t, Value.int .i64 AV.none.on.c, Value.int .i64 AV.none.on.k, Value.int .i64 AV.none.on.a, Value.int .i64 AV.none.on.t, Value.int .i64 AV.none.ar.c, Value.int .i64 AV.none.ar.k, Value.int .i64 AV.none.ar.a, Value.int .i64 AV.none.ar.t, .slice none 0 0] 40)).alloc (.cells #[Value.int .i64 AV.none.f.d, Value.int .i64 AV.none.f.l, Value.int .i64 AV.none.f.a, Value.int .i64 AV.none.f.b, Value.int .i64 AV.none.o, Value.int .i64 AV.none.l, Value.int .i64 AV.none.t, Value.int .i64 AV.none.on.c, Value.int .i64 AV.none.on.k, Value.int .i64 AV.none.on.a, Value.int .i64 AV.none.on.t, Value.int .i64 AV.none.ar.c, Value.int .i64 AV.none.ar.k, Value.int .i64 AV.none.ar.a, Value.int .i64 AV.none.ar.t, .slice none 0 0] 40))
  generalize (((w.alloc (.cells #[Value.int .i64 a.f.d, Value.int .i64 a.f.l, Value.int .i64 a.f.a, Value.int .i64 a.f.b, Value.int .i64 a.o, Value.int .i64 a.l, Value.int .i64 a.t, Value.int .i64 a.on.c, Value.int .i64 a.on.k, Value.int .i64 a.on.a, Value.int .i64 a.on.t, Value.int .i64 a.ar.c, Value.int .i64 a.ar.k, Value.int .i64 a.ar.a, Value.int .i64 a.ar.t, .slice A n c] 30)).alloc (.cells #[Value.int .i64 AV.none.f.d, Value.int .i64 AV.none.f.l, Value.int .i64 AV.none.f.a, Value.int .i64 AV.none.f.b, Value.int .i64 AV.none.o, Value.int .i64 AV.none.l, Value.int .i64 AV.none.t, Value.int .i64 AV.none.on.c, Value.int .i64 AV.none.on.k, Value.int .i64 AV.none.on.a, Value.int .i64 AV.none.on.t, Value.int .i64 AV.none.ar.c, Value.int .i64 AV.none.ar.k, Value.int .i64 AV.none.ar.a, Value.int .i64 AV.none.ar.t, .slice none 0 0] 40)).alloc (.cells #[Value.int .i64 AV.none.f.d, Value.int .i64 AV.none.f.l, Value.int .i64 AV.none.f.a, Value.int .i64 AV.none.f.b, Value.int .i64 AV.none.o, Value.int .i64 AV.none.l, Value.int .i64 AV.none.t, Value.int .i64 AV.none.on.c, Value.int .i64 AV.none.on.k, Value.int .i64 AV.none.on.a, Value.int .i64 AV.none.on.t, Value.int .i64 AV.none.ar.c, Value.int .i64 AV.none.ar.k, Value.int .i64 AV.none.ar.a, Value.int .i64 AV.none.ar.t, .slice none 0 0] 40)) = W at *
  have C1 : RangeX W ⟨w.heap.size, 0, none⟩ [Value.int .i64 a.f.d, Value.int .i64 a.f.l, Value.int .i64 a.f.a, Value.int .i64 a.f.b, Value.int .i64 a.o, Value.int .i64 a.l, Value.int .i64 a.t, Value.int .i64 a.on.c, Value.int .i64 a.on.k, Value.int .i64 a.on.a, Value.int .i64 a.on.t, Value.int .i64 a.ar.c, Value.int .i64 a.ar.k, Value.int .i64 a.ar.a, Value.int .i64 a.ar.t] := Blk.head (R := [.slice A n c]) B1
  have z3 := B3.lt
  go_upto_region 3 with (first | ((with_reducible refine wp_ldX ?_ row_laws C1 ?_); (focus (refine ⟨rfl, ⟨_, rfl, ?_⟩⟩; simp [go_sem]; done))) | (go_at_call 19; refine (laws_toArms a _).mono ?_; rintro e w1 ⟨rfl, hb1⟩; replace B1 := B1.below hb1; replace B2 := B2.below hb1; replace B3 := B3.below hb1; replace hW := bstep hW hb1; clear hb1 C1) | ((with_reducible refine' wp_stM (k := 0) B3 _ _); rotate_left 2; (focus (refine ⟨rfl, ⟨_, _, rfl, ?_, rfl⟩, ?_, ?_, ?_⟩; (focus (simp [go_sem]; done)); (focus (simp; done)); (focus (kernel_rfl)); (focus (simp [Value.oneCell']; done)))); intro w2 hg2 hb2))
  replace B3 : Blk w2 _ _ #[Value.int .i64 a.f.d, Value.int .i64 a.f.l, Value.int .i64 a.f.a, Value.int .i64 a.f.b, Value.int .i64 a.o, Value.int .i64 a.l, Value.int .i64 a.t, Value.int .i64 a.on.c, Value.int .i64 a.on.k, Value.int .i64 a.on.a, Value.int .i64 a.on.t, Value.int .i64 a.ar.c, Value.int .i64 a.ar.k, Value.int .i64 a.ar.a, Value.int .i64 a.ar.t, .slice none 0 0] := hb2
  replace B1 := B1.past hg2 (by omega)
  replace B2 := B2.past hg2 (by omega)
  replace hW := bgrown hW hg2 (by omega)
  have z4 := B3.lt
  have z5 := hW.size
  obtain ⟨c1, _⟩ := B1.facts
  clear hg2 hb2 z3
  go_upto_region 4 with (go_at_call 28; refine (laws_toSlotS _ _ _ xs HN.out _ (HR.out.below hW) HL.out).mono ?_; rintro e w3 ⟨v, rfl, hv, hb3⟩; obtain ⟨A2, c2, rfl, _⟩ := hv.shape; clear c1; replace B2 := B2.below hb3; replace B3 := B3.below hb3; have hW3 := bstep hW hb3; clear hb3 B1; obtain ⟨c3, f3, z6⟩ := B3.all)
  have hg4 := setCell_grown w3 (w.heap.size + 1 + 1) 15 (.slice A2 xs.length c2)
  have B3' : Blk _ _ _ #[Value.int .i64 a.f.d, Value.int .i64 a.f.l, Value.int .i64 a.f.a, Value.int .i64 a.f.b, Value.int .i64 a.o, Value.int .i64 a.l, Value.int .i64 a.t, Value.int .i64 a.on.c, Value.int .i64 a.on.k, Value.int .i64 a.on.a, Value.int .i64 a.on.t, Value.int .i64 a.ar.c, Value.int .i64 a.ar.k, Value.int .i64 a.ar.a, Value.int .i64 a.ar.t, .slice A2 xs.length c2] := B3.set_ 15 (.slice A2 xs.length c2)
  replace B2 := B2.past hg4 (by omega)
  have hW4 := bgrown hW3 hg4 (by omega)
  have hv4 : Recs _ _ _ _ _ (.slice A2 xs.length c2) xs := Recs.far hv hg4 (by omega)
  clear hg4 c3 f3 z6 B3 hv hW3
  show Code.wp _ _ _ _ (w3.setCell ⟨w.heap.size + 1 + 1, 15, none⟩ (.slice A2 xs.length c2))
  generalize w3.setCell ⟨w.heap.size + 1 + 1, 15, none⟩ (.slice A2 xs.length c2) = w4 at *
  go_wp2_with (first | ((with_reducible refine wp_ldB ?_ row_sk B3' ?_); (focus (refine ⟨rfl, ⟨_, rfl, ?_⟩, rfl⟩; simp [go_sem]; done))) | ((with_reducible refine' wp_stB row_sk B2 _ _); rotate_left; (focus (refine ⟨rfl, ⟨_, _, rfl, ?_, rfl⟩, rfl, rfl, ?_⟩; (focus (simp [go_sem]; done)); (focus (simp [Value.oneCell']; done)))); intro w5 hg5 hb5))
  refine ret_rowG row_sk rfl rfl hb5 rfl rfl ?_
  exact ⟨_, rfl, Recs.base (hv4.far hg5 (by omega)) (by omega), bgrown hW4 hg5 (by omega)⟩
set_option maxHeartbeats 1000000 in
theorem laws_eqSketch (a : AV) (v u : Value) (xs : List SV) (w : World) (B B' : Nat) (hv : Slots w B v xs) (hu : Slots w B' u xs) : Calls Try.prog 12 #[.agg #[Value.int .i64 a.f.d, Value.int .i64 a.f.l, Value.int .i64 a.f.a, Value.int .i64 a.f.b, Value.int .i64 a.o, Value.int .i64 a.l, Value.int .i64 a.t, Value.int .i64 a.on.c, Value.int .i64 a.on.k, Value.int .i64 a.on.a, Value.int .i64 a.on.t, Value.int .i64 a.ar.c, Value.int .i64 a.ar.k, Value.int .i64 a.ar.a, Value.int .i64 a.ar.t, v], .agg #[Value.int .i64 a.f.d, Value.int .i64 a.f.l, Value.int .i64 a.f.a, Value.int .i64 a.f.b, Value.int .i64 a.o, Value.int .i64 a.l, Value.int .i64 a.t, Value.int .i64 a.on.c, Value.int .i64 a.on.k, Value.int .i64 a.on.a, Value.int .i64 a.on.t, Value.int .i64 a.ar.c, Value.int .i64 a.ar.k, Value.int .i64 a.ar.a, Value.int .i64 a.ar.t, u]] w fun e w' => e = .returned (.bool true) ∧ Below w.heap.size w w' := by
  go_enter Try.func12, Try.ntmps12
  go_upto_region 1 with fail
  obtain ⟨B1, B2⟩ := blk_two w 40 40 #[Value.int .i64 a.f.d, Value.int .i64 a.f.l, Value.int .i64 a.f.a, Value.int .i64 a.f.b, Value.int .i64 a.o, Value.int .i64 a.l, Value.int .i64 a.t, Value.int .i64 a.on.c, Value.int .i64 a.on.k, Value.int .i64 a.on.a, Value.int .i64 a.on.t, Value.int .i64 a.ar.c, Value.int .i64 a.ar.k, Value.int .i64 a.ar.a, Value.int .i64 a.ar.t, v] #[Value.int .i64 a.f.d, Value.int .i64 a.f.l, Value.int .i64 a.f.a, Value.int .i64 a.f.b, Value.int .i64 a.o, Value.int .i64 a.l, Value.int .i64 a.t, Value.int .i64 a.on.c, Value.int .i64 a.on.k, Value.int .i64 a.on.a, Value.int .i64 a.on.t, Value.int .i64 a.ar.c, Value.int .i64 a.ar.k, Value.int .i64 a.ar.a, Value.int .i64 a.ar.t, u]
  have hW : Below w.heap.size w ((w.alloc (.cells #[Value.int .i64 a.f.d, Value.int .i64 a.f.l, Value.int .i64 a.f.a, Value.int .i64 a.f.b, Value.int .i64 a.o, Value.int .i64 a.l, Value.int .i64 a.t, Value.int .i64 a.on.c, Value.int .i64 a.on.k, Value.int .i64 a.on.a, Value.int .i64 a.on.t, Value.int .i64 a.ar.c, Value.int .i64 a.ar.k, Value.int .i64 a.ar.a, Value.int .i64 a.ar.t, v] 40)).alloc (.cells #[Value.int .i64 a.f.d, Value.int .i64 a.f.l, Value.int .i64 a.f.a, Value.int .i64 a.f.b, Value.int .i64 a.o, Value.int .i64 a.l, Value.int .i64 a.t, Value.int .i64 a.on.c, Value.int .i64 a.on.k, Value.int .i64 a.on.a, Value.int .i64 a.on.t, Value.int .i64 a.ar.c, Value.int .i64 a.ar.k, Value.int .i64 a.ar.a, Value.int .i64 a.ar.t, u] 40)) := (by repeat (first | (with_reducible exact Below.refl _ _) | (with_reducible assumption) | (with_reducible refine balloc ?_ _) | (with_reducible refine bdrew ?_) | (with_reducible refine bdrewN ?_ _) | (with_reducible refine bset ?_ (by first | omega | (simp; done) | (simp; omega)) _) | (with_reducible refine bstep ?_ (by assumption))))
  show Code.wp _ _ _ _ ((w.alloc (.cells #[Value.int .i64 a.f.d, Value.int .i64 a.f.l, Value.int .i64 a.f.a, Value.int .i64 a.f.b, Value.int .i64 a.o, Value.int .i64 a.l, Value.int .i64 a.t, Value.int .i64 a.on.c, Value.int .i64 a.on.k, Value.int .i64 a.on.a, Value.int .i64 a.on.t, Value.int .i64 a.ar.c, Value.int .i64 a.ar.k, Value.int .i64 a.ar.a, Value.int .i64 a.ar.t, v] 40)).alloc (.cells #[Value.int .i64 a.f.d, Value.int .i64 a.f.l, Value.int .i64 a.f.a, Value.int .i64 a.f.b, Value.int .i64 a.o, Value.int .i64 a.l, Value.int .i64 a.t, Value.int .i64 a.on.c, Value.int .i64 a.on.k, Value.int .i64 a.on.a, Value.int .i64 a.on.t, Value.int .i64 a.ar.c, Value.int .i64 a.ar.k, Value.int .i64 a.ar.a, Value.int .i64 a.ar.t, u] 40))
  generalize ((w.alloc (.cells #[Value.int .i64 a.f.d, Value.int .i64 a.f.l, Value.int .i64 a.f.a, Value.int .i64 a.f.b, Value.int .i64 a.o, Value.int .i64 a.l, Value.int .i64 a.t, Value.int .i64 a.on.c, Value.int .i64 a.on.k, Value.int .i64 a.on.a, Value.int .i64 a.on.t, Value.int .i64 a.ar.c, Value.int .i64 a.ar.k, Value.int .i64 a.ar.a, Value.int .i64 a.ar.t, v] 40)).alloc (.cells #[Value.int .i64 a.f.d, Value.int .i64 a.f.l, Value.int .i64 a.f.a, Value.int .i64 a.f.b, Value.int .i64 a.o, Value.int .i64 a.l, Value.int .i64 a.t, Value.int .i64 a.on.c, Value.int .i64 a.on.k, Value.int .i64 a.on.a, Value.int .i64 a.on.t, Value.int .i64 a.ar.c, Value.int .i64 a.ar.k, Value.int .i64 a.ar.a, Value.int .i64 a.ar.t, u] 40)) = W at *
  have C1 : RangeX W ⟨w.heap.size, 0, none⟩ [Value.int .i64 a.f.d, Value.int .i64 a.f.l, Value.int .i64 a.f.a, Value.int .i64 a.f.b, Value.int .i64 a.o, Value.int .i64 a.l, Value.int .i64 a.t, Value.int .i64 a.on.c, Value.int .i64 a.on.k, Value.int .i64 a.on.a, Value.int .i64 a.on.t, Value.int .i64 a.ar.c, Value.int .i64 a.ar.k, Value.int .i64 a.ar.a, Value.int .i64 a.ar.t] := Blk.head (R := [v]) B1
  have C2 : RangeX W ⟨w.heap.size + 1, 0, none⟩ [Value.int .i64 a.f.d, Value.int .i64 a.f.l, Value.int .i64 a.f.a, Value.int .i64 a.f.b, Value.int .i64 a.o, Value.int .i64 a.l, Value.int .i64 a.t, Value.int .i64 a.on.c, Value.int .i64 a.on.k, Value.int .i64 a.on.a, Value.int .i64 a.on.t, Value.int .i64 a.ar.c, Value.int .i64 a.ar.k, Value.int .i64 a.ar.a, Value.int .i64 a.ar.t] := Blk.head (R := [u]) B2
  replace hv := hv.below hW
  replace hu := hu.below hW
  go_upto_region 3 with (first | ((with_reducible refine wp_ldX ?_ row_impl C1 ?_); (focus (refine ⟨rfl, ⟨_, rfl, ?_⟩⟩; simp [go_sem]; done))) | ((with_reducible refine wp_ldX ?_ row_impl C2 ?_); (focus (refine ⟨rfl, ⟨_, rfl, ?_⟩⟩; simp [go_sem]; done))) | (go_at_call 11; refine (laws_eqArms a _).mono ?_; rintro e w1 ⟨rfl, hb1⟩; replace B1 := B1.below hb1; replace B2 := B2.below hb1; replace hv := hv.below hb1; replace hu := hu.below hb1; replace hW := bstep hW hb1; clear hb1 C1 C2))
  obtain ⟨c1, z1⟩ := B1.facts
  obtain ⟨c2, z2⟩ := B2.facts
  go_wp2_with (go_at_call 33; refine (laws_eqSlotS _ _ xs _ _ _ hv hu).mono ?_; rintro e w2 ⟨rfl, hb2⟩)
  go_ret
  exact ⟨rfl, bstep hW hb2⟩
/-! ### marked, and held -/
def smark (k : Int) (i : Nat) : SV := ⟨k + 2 * (i : Int), k + 2 * (i : Int) + 1⟩
def smarks (k : Int) (n : Nat) : List SV := (List.range n).map (smark k)
theorem smarks_length (k : Int) (n : Nat) : (smarks k n).length = n := by simp [smarks]
theorem smarks_getD (k : Int) (n i : Nat) (h : i < n) : (smarks k n).getD i SV.z = smark k i := by simp [smarks, List.getD_eq_getElem?_getD, h]
theorem smarks_step (k : Int) (xs : List SV) (j : Nat) (h : j < xs.length) : (smarks k j ++ xs.drop j).set j (smark k j) = smarks k (j + 1) ++ xs.drop (j + 1) := by
  rw [List.drop_eq_getElem_cons h, List.set_append_right _ _ (by simp [smarks])]
  have e : smarks k (j + 1) = smarks k j ++ [smark k j] := by simp [smarks, List.range_succ]
  rw [e, smarks_length, Nat.sub_self, List.set_cons_zero, List.append_assoc]
  rfl
set_option maxHeartbeats 1000000 in
theorem laws_markSlotS (v : Value) (xs : List SV) (k0 : Int) (w : World) (B : Nat) (hv : Slots w B v xs) (h0 : 0 ≤ k0) (h1 : k0 ≤ 1048576) (h2 : xs.length ≤ 1048576) :
    Calls Try.prog 45 #[v, .int .i64 k0] w fun e w' => e = .returned (.int .i64 (k0 + 2 * xs.length)) ∧ Slots w' B v (smarks k0 xs.length) ∧ w.grownBy w' v.ownBlock := by
  obtain ⟨A, c, rfl, ha⟩ := hv.shape
  have HA := Lib.hid ha
  have HV := Lib.hid hv
  clear ha hv
  go_enter Try.func45, Try.ntmps45
  go_wp2
  go_loopw [1, 5] (fun q i wr => ∃ k : Nat, k ≤ xs.length ∧ i = .int .i64 k ∧ q = .int .i64 (k0 + 2 * k) ∧ Hid (Slots wr B (.slice A xs.length c) (smarks k0 k ++ xs.drop k)) ∧ Hid (w.grownBy wr (Value.slice A xs.length c).ownBlock)) (fun _ i _ => xs.length - (intOf i).toNat)
  case atStart => exact ⟨0, Nat.zero_le _, rfl, by simp, by simpa [smarks] using HV, World.grownBy.refl _ _⟩
  case round =>
    obtain ⟨k, hk, rfl, rfl, hi, hg⟩ := hrel
    by_cases hlt : k < xs.length
    · obtain ⟨g, rfl, _, _, _, _⟩ := HA.out k hlt
      have hn : (smarks k0 k ++ xs.drop k).length = xs.length := by simp [smarks_length]; omega
      have hi' := hi.out
      unfold Slots Recs at hi'
      rw [hn] at hi'
      have d0 := hi'.cellAt (k * 2) (by omega)
      have d1 := hi'.cellAt (k * 2 + 1) (by omega)
      have hf := hi'.frozenAt
      have hlen := flatR_len SV.row_len (smarks k0 k ++ xs.drop k)
      rw [hn] at hlen
      obtain ⟨x0, e0⟩ : ∃ x, (flatR SV.row (smarks k0 k ++ xs.drop k))[k * 2]? = some x := ⟨_, List.getElem?_eq_getElem (by omega)⟩
      obtain ⟨x1, e1⟩ : ∃ x, (flatR SV.row (smarks k0 k ++ xs.drop k))[k * 2 + 1]? = some x := ⟨_, List.getElem?_eq_getElem (by omega)⟩
      rw [e0] at d0
      rw [e1] at d1
      have hs : Slots wr B (.slice (some ⟨g, 0, none⟩) (smarks k0 k ++ xs.drop k).length c) (smarks k0 k ++ xs.drop k) := by rw [hn]; exact hi.out
      have hst := Recs.stored SV.row_len hs (k := k) (by omega) (smark k0 k)
      rw [smarks_step k0 xs k hlt, hn] at hst
      have HST := Lib.hid hst
      clear hst hs hi' hlen e0 e1 hi
      go_wp2
      go_roundw
      case rel => exact ⟨k + 1, by omega, by go_num, by go_num, HST.out.1, grown_two hg.out HST.out.2⟩
      case measure => simp [intOf]; omega
    · obtain rfl : k = xs.length := by omega
      go_wp2
      go_ret
      have h6 := hi.out
      rw [List.drop_of_length_le (Nat.le_refl _), List.append_nil] at h6
      exact ⟨rfl, h6, hg.out⟩
theorem laws_heldSlotS (v : Value) (n : Nat) (k0 : Int) (w : World) (B : Nat) (hv : Slots w B v (smarks k0 n)) (h0 : 0 ≤ k0) (h1 : k0 ≤ 1048576) (h2 : n ≤ 1048576) :
    Calls Try.prog 46 #[v, .int .i64 k0] w fun e w' => e = .returned (.int .i64 (k0 + 2 * n)) ∧ Below w.heap.size w w' := by
  obtain ⟨A, c, rfl, ha⟩ := hv.shape
  rw [smarks_length] at ha ⊢
  have HA := Lib.hid ha
  clear ha hv
  go_enter Try.func46, Try.ntmps46
  go_wp2
  go_loop [1, 5] (fun q i => ∃ k : Nat, k ≤ n ∧ i = .int .i64 k ∧ q = .int .i64 (k0 + 2 * k)) (fun _ i => n - (intOf i).toNat)
  case atStart => exact ⟨0, Nat.zero_le _, rfl, by simp⟩
  case round =>
    obtain ⟨k, hk, rfl, rfl⟩ := hrel
    by_cases hlt : k < n
    · obtain ⟨g, rfl, _, _, hr, _⟩ := HA.out k hlt
      rw [smarks_getD k0 n k hlt] at hr
      have d0 : w.cell? ⟨g, k * 2, none⟩ = some (.int .i64 (k0 + 2 * (k : Int))) := hr 0 _ rfl
      have d1 : w.cell? ⟨g, k * 2 + 1, none⟩ = some (.int .i64 (k0 + 2 * (k : Int) + 1)) := hr 1 _ rfl
      clear hr
      go_wp2
      go_round
      case rel => exact ⟨k + 1, by omega, by go_num, by go_num⟩
      case measure => simp [intOf]; omega
    · obtain rfl : k = n := by omega
      go_wp2
      go_ret
      exact ⟨rfl, Below.refl _ _⟩
theorem laws_markSketch (a : AV) (v : Value) (xs : List SV) (k0 : Int) (w : World) (B : Nat) (hv : Slots w B v xs) (h0 : 0 ≤ k0) (h1 : k0 ≤ 1048576) (h2 : xs.length ≤ 1048576) :
    Calls Try.prog 21 #[.agg #[Value.int .i64 a.f.d, Value.int .i64 a.f.l, Value.int .i64 a.f.a, Value.int .i64 a.f.b, Value.int .i64 a.o, Value.int .i64 a.l, Value.int .i64 a.t, Value.int .i64 a.on.c, Value.int .i64 a.on.k, Value.int .i64 a.on.a, Value.int .i64 a.on.t, Value.int .i64 a.ar.c, Value.int .i64 a.ar.k, Value.int .i64 a.ar.a, Value.int .i64 a.ar.t, v], .int .i64 k0] w fun e w' => e = .returned (.int .i64 (k0 + 2 * xs.length)) ∧ Slots w' B v (smarks k0 xs.length) ∧ w.grownBy w' v.ownBlock := by
  go_enter Try.func21, Try.ntmps21
  go_upto_region 1 with fail
  have B1 := blk_one w 40 #[Value.int .i64 a.f.d, Value.int .i64 a.f.l, Value.int .i64 a.f.a, Value.int .i64 a.f.b, Value.int .i64 a.o, Value.int .i64 a.l, Value.int .i64 a.t, Value.int .i64 a.on.c, Value.int .i64 a.on.k, Value.int .i64 a.on.a, Value.int .i64 a.on.t, Value.int .i64 a.ar.c, Value.int .i64 a.ar.k, Value.int .i64 a.ar.a, Value.int .i64 a.ar.t, v]
  have hW : Below w.heap.size w (w.alloc (.cells #[Value.int .i64 a.f.d, Value.int .i64 a.f.l, Value.int .i64 a.f.a, Value.int .i64 a.f.b, Value.int .i64 a.o, Value.int .i64 a.l, Value.int .i64 a.t, Value.int .i64 a.on.c, Value.int .i64 a.on.k, Value.int .i64 a.on.a, Value.int .i64 a.on.t, Value.int .i64 a.ar.c, Value.int .i64 a.ar.k, Value.int .i64 a.ar.a, Value.int .i64 a.ar.t, v] 40)) := (by repeat (first | (with_reducible exact Below.refl _ _) | (with_reducible assumption) | (with_reducible refine balloc ?_ _) | (with_reducible refine bdrew ?_) | (with_reducible refine bdrewN ?_ _) | (with_reducible refine bset ?_ (by first | omega | (simp; done) | (simp; omega)) _) | (with_reducible refine bstep ?_ (by assumption))))
  show Code.wp _ _ _ _ (w.alloc (.cells #[Value.int .i64 a.f.d, Value.int .i64 a.f.l, Value.int .i64 a.f.a, Value.int .i64 a.f.b, Value.int .i64 a.o, Value.int .i64 a.l, Value.int .i64 a.t, Value.int .i64 a.on.c, Value.int .i64 a.on.k, Value.int .i64 a.on.a, Value.int .i64 a.on.t, Value.int .i64 a.ar.c, Value.int .i64 a.ar.k, Value.int .i64 a.ar.a, Value.int .i64 a.ar.t, v] 40))
  generalize w.alloc (.cells #[Value.int .i64 a.f.d, Value.int .i64 a.f.l, Value.int .i64 a.f.a, Value.int .i64 a.f.b, Value.int .i64 a.o, Value.int .i64 a.l, Value.int .i64 a.t, Value.int .i64 a.on.c, Value.int .i64 a.on.k, Value.int .i64 a.on.a, Value.int .i64 a.on.t, Value.int .i64 a.ar.c, Value.int .i64 a.ar.k, Value.int .i64 a.ar.a, Value.int .i64 a.ar.t, v] 40) = W at *
  have hv1 := hv.below hW
  obtain ⟨c1, z1⟩ := B1.facts
  go_wp2_with (go_at_call 45; refine (laws_markSlotS _ xs k0 _ _ hv1 h0 h1 h2).mono ?_; rintro e w2 ⟨rfl, hv2, hg2⟩)
  go_ret
  refine ⟨rfl, hv2, ?_⟩
  exact ⟨hg2.os.trans hW.os, hg2.tape.trans hW.tape, hg2.output.trans hW.output, Nat.le_trans hW.size hg2.size, fun b hb hne => (hg2.block b (Nat.lt_of_lt_of_le hb hW.size) hne).trans (hW.block b hb)⟩
theorem laws_heldSketch (a : AV) (v : Value) (n : Nat) (k0 : Int) (w : World) (B : Nat) (hv : Slots w B v (smarks k0 n)) (h0 : 0 ≤ k0) (h1 : k0 ≤ 1048576) (h2 : n ≤ 1048576) :
    Calls Try.prog 22 #[.agg #[Value.int .i64 a.f.d, Value.int .i64 a.f.l, Value.int .i64 a.f.a, Value.int .i64 a.f.b, Value.int .i64 a.o, Value.int .i64 a.l, Value.int .i64 a.t, Value.int .i64 a.on.c, Value.int .i64 a.on.k, Value.int .i64 a.on.a, Value.int .i64 a.on.t, Value.int .i64 a.ar.c, Value.int .i64 a.ar.k, Value.int .i64 a.ar.a, Value.int .i64 a.ar.t, v], .int .i64 k0] w fun e w' => e = .returned (.int .i64 (k0 + 2 * n)) ∧ Below w.heap.size w w' := by
  go_enter Try.func22, Try.ntmps22
  go_upto_region 1 with fail
  have B1 := blk_one w 40 #[Value.int .i64 a.f.d, Value.int .i64 a.f.l, Value.int .i64 a.f.a, Value.int .i64 a.f.b, Value.int .i64 a.o, Value.int .i64 a.l, Value.int .i64 a.t, Value.int .i64 a.on.c, Value.int .i64 a.on.k, Value.int .i64 a.on.a, Value.int .i64 a.on.t, Value.int .i64 a.ar.c, Value.int .i64 a.ar.k, Value.int .i64 a.ar.a, Value.int .i64 a.ar.t, v]
  have hW : Below w.heap.size w (w.alloc (.cells #[Value.int .i64 a.f.d, Value.int .i64 a.f.l, Value.int .i64 a.f.a, Value.int .i64 a.f.b, Value.int .i64 a.o, Value.int .i64 a.l, Value.int .i64 a.t, Value.int .i64 a.on.c, Value.int .i64 a.on.k, Value.int .i64 a.on.a, Value.int .i64 a.on.t, Value.int .i64 a.ar.c, Value.int .i64 a.ar.k, Value.int .i64 a.ar.a, Value.int .i64 a.ar.t, v] 40)) := (by repeat (first | (with_reducible exact Below.refl _ _) | (with_reducible assumption) | (with_reducible refine balloc ?_ _) | (with_reducible refine bdrew ?_) | (with_reducible refine bdrewN ?_ _) | (with_reducible refine bset ?_ (by first | omega | (simp; done) | (simp; omega)) _) | (with_reducible refine bstep ?_ (by assumption))))
  show Code.wp _ _ _ _ (w.alloc (.cells #[Value.int .i64 a.f.d, Value.int .i64 a.f.l, Value.int .i64 a.f.a, Value.int .i64 a.f.b, Value.int .i64 a.o, Value.int .i64 a.l, Value.int .i64 a.t, Value.int .i64 a.on.c, Value.int .i64 a.on.k, Value.int .i64 a.on.a, Value.int .i64 a.on.t, Value.int .i64 a.ar.c, Value.int .i64 a.ar.k, Value.int .i64 a.ar.a, Value.int .i64 a.ar.t, v] 40))
  generalize w.alloc (.cells #[Value.int .i64 a.f.d, Value.int .i64 a.f.l, Value.int .i64 a.f.a, Value.int .i64 a.f.b, Value.int .i64 a.o, Value.int .i64 a.l, Value.int .i64 a.t, Value.int .i64 a.on.c, Value.int .i64 a.on.k, Value.int .i64 a.on.a, Value.int .i64 a.on.t, Value.int .i64 a.ar.c, Value.int .i64 a.ar.k, Value.int .i64 a.ar.a, Value.int .i64 a.ar.t, v] 40) = W at *
  have hv1 := hv.below hW
  obtain ⟨c1, z1⟩ := B1.facts
  go_wp2_with (go_at_call 46; refine (laws_heldSlotS _ n k0 _ _ hv1 h0 h1 h2).mono ?_; rintro e w2 ⟨rfl, hb2⟩; replace hW := bstep hW hb2; clear hb2 c1 z1 B1)
  go_ret
  exact ⟨rfl, hW⟩
end Go.Proofs.Ytonkblhajbphmaa
