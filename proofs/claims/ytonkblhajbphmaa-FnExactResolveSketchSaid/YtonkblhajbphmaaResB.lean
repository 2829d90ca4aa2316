/- Sketches resolved: what the slots stand for, by the reference. Conditions: as each theorem says. -/
import Derived.Test.YtonkblhajbphmaaRows
import Derived.Test.YtonkblhajbphmaaResA
import Derived.Deep.CutBlock
namespace Go.Proofs.Ytonkblhajbphmaa
set_option linter.unusedSimpArgs false
set_option linter.unusedVariables false
open Go.ChangeShapes Go.WideShapes Go.ChangeAt Go.RowKit

theorem Ints.own {w : World} {B : Nat} {v : Value} {L : List Int} (h : Ints w B v L) (hl : 0 < L.length) : ∃ g, v.ownBlock = some g := by
  rcases h.2 with ⟨_, h0⟩ | ⟨g, cap, cur, rfl, _⟩
  · omega
  · exact ⟨g, rfl⟩
theorem Ints.reads_ {w : World} {B n c : Nat} {A : Option Addr} {L : List Int} (h : Ints w B (.slice A n c) L) : Reads w A L := by
  obtain ⟨A', c', e, hr⟩ := h.reads
  injection e with e _ _
  subst e
  exact hr
theorem stT_1 {a : AV} {M : List Int} {s : SV} (h : s.m = 1) : stT a M s = some s.n := by unfold stT; rw [if_pos h]
theorem stT_2 {a : AV} {M : List Int} {s : SV} (h : s.m = 2) (hd : a.f.d = 0) : stT a M s = some a.f.a := by unfold stT; rw [if_neg (by omega), if_pos h, if_pos hd]
theorem stT_2n {a : AV} {M : List Int} {s : SV} (h : s.m = 2) (hd : ¬ a.f.d = 0) : stT a M s = none := by unfold stT; rw [if_neg (by omega), if_pos h, if_neg hd]
theorem stT_3 {a : AV} {M : List Int} {s : SV} (h : s.m = 3) (hn : s.n ≤ ((fstL [] M).length : Int)) : stT a M s = some ((fstL [] M).getD (s.n - 1).toNat 0) := by unfold stT; rw [if_neg (by omega), if_neg (by omega), if_pos h, if_pos hn]
theorem stT_3n {a : AV} {M : List Int} {s : SV} (h : s.m = 3) (hn : ¬ s.n ≤ ((fstL [] M).length : Int)) : stT a M s = none := by unfold stT; rw [if_neg (by omega), if_neg (by omega), if_pos h, if_neg hn]
theorem stT_4 {a : AV} {M : List Int} {s : SV} (h : s.m = 4) : stT a M s = some (M.getD (M.length - 1) 0) := by unfold stT; rw [if_neg (by omega), if_neg (by omega), if_neg (by omega), if_pos h]
theorem stT_5 {a : AV} {M : List Int} {s : SV} (h1 : ¬ s.m = 1) (h2 : ¬ s.m = 2) (h3 : ¬ s.m = 3) (h4 : ¬ s.m = 4) : stT a M s = some 0 := by unfold stT; rw [if_neg h1, if_neg h2, if_neg h3, if_neg h4]
theorem slot3 {s : SV} (h : slotOk s = true) (h3 : s.m = 3) : 1 ≤ s.n ∧ s.n ≤ 3 := by
  unfold slotOk at h
  rw [if_neg (by omega), if_pos h3] at h
  exact inB_true.1 h
/-- The lists in the making. -/
def SS (a : AV) (h : Value) (w : World) (vM vO : Value) (M O : List Int) (W : World) : Prop :=
  Ints W w.heap.size vM M ∧ Ints W w.heap.size vO O ∧ (∃ gm go, vM.ownBlock = some gm ∧ vO.ownBlock = some go ∧ gm ≠ go) ∧ Blk W w.heap.size 40 #[Value.int .i64 a.f.d, Value.int .i64 a.f.l, Value.int .i64 a.f.a, Value.int .i64 a.f.b, Value.int .i64 a.o, Value.int .i64 a.l, Value.int .i64 a.t, Value.int .i64 a.on.c, Value.int .i64 a.on.k, Value.int .i64 a.on.a, Value.int .i64 a.on.t, Value.int .i64 a.ar.c, Value.int .i64 a.ar.k, Value.int .i64 a.ar.a, Value.int .i64 a.ar.t, h] ∧ Below w.heap.size w W
section
variable {a : AV} {h vM vO v' : Value} {w W W' : World} {M O : List Int} {y : Int}
theorem SS.below (H : SS a h w vM vO M O W) (hb : Below W.heap.size W W') : SS a h w vM vO M O W' := ⟨H.1.below hb, H.2.1.below hb, H.2.2.1, H.2.2.2.1.below hb, bstep H.2.2.2.2 hb⟩
theorem SS.appM (H : SS a h w vM vO M O W) (hi : Ints W' w.heap.size v' (M ++ [y])) (hg : W.grownBy W' vM.ownBlock) (hat : v'.ownBlock = vM.ownBlock ∨ v'.ownBlock = some (W.heap.size + 1)) : SS a h w v' vO (M ++ [y]) O W' := by
  obtain ⟨gm, go, em, eo, hne⟩ := H.2.2.1
  have hlo := (World.ownsRow.lt H.2.1 go eo).2
  refine ⟨hi, H.2.1.kept hg (.inr (by rw [em, eo]; exact fun e => hne (by injection e with e; exact e.symm))), ?_, H.2.2.2.1.grown hg (own_blk_ne H.1 H.2.2.2.1 (by decide)), grown_below H.2.2.2.2 hg fun q hq => (World.ownsRow.lt H.1 q hq).1⟩
  rcases hat with e | e
  · exact ⟨gm, go, e.trans em, eo, hne⟩
  · exact ⟨_, go, e, eo, by omega⟩
theorem SS.appO (H : SS a h w vM vO M O W) (hi : Ints W' w.heap.size v' (O ++ [y])) (hg : W.grownBy W' vO.ownBlock) (hat : v'.ownBlock = vO.ownBlock ∨ v'.ownBlock = some (W.heap.size + 1)) : SS a h w vM v' M (O ++ [y]) W' := by
  obtain ⟨gm, go, em, eo, hne⟩ := H.2.2.1
  have hlm := (World.ownsRow.lt H.1 gm em).2
  refine ⟨H.1.kept hg (.inr (by rw [em, eo]; exact fun e => hne (by injection e))), hi, ?_, H.2.2.2.1.grown hg (own_blk_ne H.2.1 H.2.2.2.1 (by decide)), grown_below H.2.2.2.2 hg fun q hq => (World.ownsRow.lt H.2.1 q hq).1⟩
  rcases hat with e | e
  · exact ⟨gm, go, em, e.trans eo, hne⟩
  · exact ⟨gm, _, em, e, by omega⟩
theorem SS.facts (H : SS a h w vM vO M O W) : (∀ i, W.cell? ⟨w.heap.size, i, none⟩ = (#[Value.int .i64 a.f.d, Value.int .i64 a.f.l, Value.int .i64 a.f.a, Value.int .i64 a.f.b, Value.int .i64 a.o, Value.int .i64 a.l, Value.int .i64 a.t, Value.int .i64 a.on.c, Value.int .i64 a.on.k, Value.int .i64 a.on.a, Value.int .i64 a.on.t, Value.int .i64 a.ar.c, Value.int .i64 a.ar.k, Value.int .i64 a.ar.a, Value.int .i64 a.ar.t, h] : Array Value)[i]?) ∧ w.heap.size < W.heap.size := H.2.2.2.1.facts
end
def RetSt (a : AV) (ss : List SV) (w : World) (e : Ending) (w' : World) : Prop := ∃ v b O, e = .returned (.tuple #[v, .bool b]) ∧ Ints w' w.heap.size v O ∧ (∃ q, v.ownBlock = some q) ∧ ((b = true ∧ ∃ M, stK a ss ss.length = some (M, O)) ∨ (b = false ∧ stK a ss ss.length = none)) ∧ Below w.heap.size w w'
set_option maxRecDepth 100000 in
set_option maxHeartbeats 4000000 in
theorem spec_l7Stated (a : AV) (v : Value) (ss : List SV) (w : World) (B : Nat) (hv : Slots w B v ss) (hok : skOk a ss = true) : Calls Try.prog 55 #[.agg #[Value.int .i64 a.f.d, Value.int .i64 a.f.l, Value.int .i64 a.f.a, Value.int .i64 a.f.b, Value.int .i64 a.o, Value.int .i64 a.l, Value.int .i64 a.t, Value.int .i64 a.on.c, Value.int .i64 a.on.k, Value.int .i64 a.on.a, Value.int .i64 a.on.t, Value.int .i64 a.ar.c, Value.int .i64 a.ar.k, Value.int .i64 a.ar.a, Value.int .i64 a.ar.t, v]] w (RetSt a ss w) := by
  obtain ⟨ha, hlen, hslot⟩ := skOk_parts hok
  have hn3 : ss.length ≤ 3 := by rw [hlen]; exact places_len a
  obtain ⟨A, c, rfl, hx⟩ := hv.shape
  have HX := Lib.hid hx
  have HSL := Lib.hid hslot
  have HA := Lib.hid ha
  have H3 := Lib.hid hn3
  have HF0 := Lib.hid (ft_pos ha)
  have hFL := ft_len a
  clear hx hslot ha hlen hok hv
  go_enter Try.func55, Try.ntmps55
  go_upto_region 1 with fail
  have B1 := blk_one w 40 #[Value.int .i64 a.f.d, Value.int .i64 a.f.l, Value.int .i64 a.f.a, Value.int .i64 a.f.b, Value.int .i64 a.o, Value.int .i64 a.l, Value.int .i64 a.t, Value.int .i64 a.on.c, Value.int .i64 a.on.k, Value.int .i64 a.on.a, Value.int .i64 a.on.t, Value.int .i64 a.ar.c, Value.int .i64 a.ar.k, Value.int .i64 a.ar.a, Value.int .i64 a.ar.t, .slice A ss.length c]
  have hW : Below w.heap.size w (w.alloc (.cells #[Value.int .i64 a.f.d, Value.int .i64 a.f.l, Value.int .i64 a.f.a, Value.int .i64 a.f.b, Value.int .i64 a.o, Value.int .i64 a.l, Value.int .i64 a.t, Value.int .i64 a.on.c, Value.int .i64 a.on.k, Value.int .i64 a.on.a, Value.int .i64 a.on.t, Value.int .i64 a.ar.c, Value.int .i64 a.ar.k, Value.int .i64 a.ar.a, Value.int .i64 a.ar.t, .slice A ss.length c] 40)) := (by repeat (first | (with_reducible exact Below.refl _ _) | (with_reducible assumption) | (with_reducible refine balloc ?_ _) | (with_reducible refine bdrew ?_) | (with_reducible refine bdrewN ?_ _) | (with_reducible refine bset ?_ (by first | omega | (simp; done) | (simp; omega)) _) | (with_reducible refine bstep ?_ (by assumption))))
  show Code.wp _ _ _ _ (w.alloc (.cells #[Value.int .i64 a.f.d, Value.int .i64 a.f.l, Value.int .i64 a.f.a, Value.int .i64 a.f.b, Value.int .i64 a.o, Value.int .i64 a.l, Value.int .i64 a.t, Value.int .i64 a.on.c, Value.int .i64 a.on.k, Value.int .i64 a.on.a, Value.int .i64 a.on.t, Value.int .i64 a.ar.c, Value.int .i64 a.ar.k, Value.int .i64 a.ar.a, Value.int .i64 a.ar.t, .slice A ss.length c] 40))
  generalize w.alloc (.cells #[Value.int .i64 a.f.d, Value.int .i64 a.f.l, Value.int .i64 a.f.a, Value.int .i64 a.f.b, Value.int .i64 a.o, Value.int .i64 a.l, Value.int .i64 a.t, Value.int .i64 a.on.c, Value.int .i64 a.on.k, Value.int .i64 a.on.a, Value.int .i64 a.on.t, Value.int .i64 a.ar.c, Value.int .i64 a.ar.k, Value.int .i64 a.ar.a, Value.int .i64 a.ar.t, .slice A ss.length c] 40) = W at *
  obtain ⟨c1, y1⟩ := B1.facts
  go_upto_region 2 with (go_at_call 72; refine (spec_l3Tinctures _ _ _ _ _).mono ?_; rintro e w1 ⟨vM, rfl, hM, hb1⟩; replace B1 := B1.below hb1; have hM0 := hM.base hW.size; replace hW := bstep hW hb1; clear hb1 c1 y1 hM)
  go_upto_region 3 with fail
  have H0 : Hid (SS a (.slice A ss.length c) w vM (.slice (some ⟨w1.heap.size, 0, none⟩) 0 0) a.ft [] (w1.alloc (.cells #[] 3))) := by
    have hO : Ints (w1.alloc (.cells #[] 3)) w1.heap.size (.slice (some ⟨w1.heap.size, 0, none⟩) 0 0) [] := ints_lit w1 [] #[] 0 rfl rfl (by decide)
    obtain ⟨gm, em⟩ := hM0.own HF0.out.2.1
    have hlm := (World.ownsRow.lt hM0 gm em).2
    exact ⟨World.ownsRow.alloc hM0 _, hO.base hW.size, ⟨gm, w1.heap.size, em, rfl, by omega⟩, B1.alloc _, balloc hW _⟩
  clear hM0 B1 hW
  generalize Value.slice (some ⟨w1.heap.size, 0, none⟩) 0 0 = vO at *
  generalize w1.alloc (.cells #[] 3) = W1 at *
  have HI0 := Lib.hid (inv_zero (ss := ss) HA.out)
  go_wp2
  go_loopw [4, 5, 6] (fun m o i wr => ∃ (k : Nat) (M O : List Int), k ≤ ss.length ∧ i = .int .i64 k ∧ Hid (stK a ss k = some (M, O)) ∧ Hid (StInv ss k M O) ∧ Hid (SS a (.slice A ss.length c) w m o M O wr)) (fun _ _ i _ => ss.length - (intOf i).toNat)
  case atStart => exact ⟨0, a.ft, [], Nat.zero_le _, rfl, rfl, HI0, H0⟩
  case round =>
    obtain ⟨k, M, O, hk, rfl, hst, hI, hS⟩ := hrel
    by_cases hlt : k < ss.length
    · obtain ⟨c1, y1⟩ := hS.out.facts
      obtain ⟨g, rfl, _, hgl, hc, _⟩ := HX.out k hlt
      have HSK := Lib.hid (HSL.out k hlt)
      have HNEXT : Hid (∀ t, stT a M (ss.getD k SV.z) = some t → stK a ss (k + 1) = some (stM M (ss.getD k SV.z) t, O ++ [t]) ∧ StInv ss (k + 1) (stM M (ss.getD k SV.z) t) (O ++ [t])) := fun t ht => ⟨stK_next hst.out ht, inv_next HA.out hI.out HSK.out ht⟩
      have HSTOP : Hid (stT a M (ss.getD k SV.z) = none → stK a ss ss.length = none) := fun ht => stK_none (stK_stop hst.out ht) hlt
      have HSIGN : Hid (∀ t, stT a M (ss.getD k SV.z) = some t → ((ss.getD k SV.z).m = 5 → t = 0) ∧ ((ss.getD k SV.z).m ≠ 5 → 0 < t)) := fun t ht => stT_sign HF0.out.2.2 hI.out.pos hI.out.some_ HSK.out ht
      have CR : RangeX wr ⟨g, k * 2, none⟩ [Value.int .i64 (ss.getD k SV.z).m, Value.int .i64 (ss.getD k SV.z).n] := RangeX.of (range_below hc hS.out.2.2.2.2)
      generalize ss.getD k SV.z = s at *
      have HM : Hid (0 < M.length ∧ M.length ≤ 5 ∧ O.length = k) := by
        show _ ∧ _
        have h1 := hI.out.some_
        have h2 := hI.out.short
        have h3 := hI.out.len
        omega
      have hk3 : k < 3 := by omega
      obtain ⟨gm, go, em, eo, hne⟩ := hS.out.2.2.1
      obtain ⟨cm, e1, _, _⟩ := hS.out.1.block em
      subst e1
      clear hc em eo hne hst hI
      go_upto_region 7 with (first | ((with_reducible refine wp_ldX ?_ row_slot CR ?_); (focus (refine ⟨rfl, ⟨_, rfl, ?_⟩⟩; simp [go_sem]; done))) | ((with_reducible refine' wp_stB row_slot (Blk.new _ _ _) _ _); rotate_left; (focus (refine ⟨rfl, ⟨_, _, rfl, ?_, rfl⟩, rfl, rfl, ?_⟩; (focus (simp [go_sem]; done)); (focus (simp [Value.oneCell']; done)))); intro w7 hg7 B7))
      have hS7 := Lib.hid (hS.out.below (bgrown (balloc (Below.refl _ _) _) hg7 (Nat.le_refl _)))
      clear c1 y1 hg7 CR hS
      generalize wr.heap.size = g7 at *
      obtain ⟨d7, y7⟩ := B7.facts
      go_upto_block 2 with fail
      go_cut [8, 9] from 15 to 78 (fun t8 t9 w' => ∃ t, t8 = .int .i64 t ∧ stT a M s = some t ∧ Hid (SS a (.slice (some ⟨g, 0, none⟩) ss.length c) w (.slice (some ⟨gm, 0, none⟩) M.length cm) u5 M O w'))
      case first =>
        obtain ⟨c1, y1⟩ := hS7.out.facts
        by_cases m1 : s.m = 1
        · have HT := Lib.hid (stT_1 (a := a) (M := M) m1)
          go_wp2
          go_meet
          case rel => exact ⟨_, rfl, HT.out, hS7⟩
        have b1 : (s.m == 1) = false := by simpa using m1
        by_cases m2 : s.m = 2
        · by_cases hd : a.f.d = 0
          · have HT := Lib.hid (stT_2 (a := a) (M := M) m2 hd)
            go_wp2
            go_meet
            case rel => exact ⟨_, rfl, HT.out, hS7⟩
          · have HT := Lib.hid (HSTOP.out (stT_2n (a := a) (M := M) m2 hd))
            have hd' : (a.f.d != 0) = true := by simpa using hd
            go_wp2
            go_ret2
            obtain ⟨gm', go', _, eo', _⟩ := hS7.out.2.2.1
            exact ⟨_, _, _, rfl, hS7.out.2.1, ⟨_, eo'⟩, .inr ⟨rfl, HT.out⟩, hS7.out.2.2.2.2⟩
        have b2 : (s.m == 2) = false := by simpa using m2
        by_cases m3 : s.m = 3
        · obtain ⟨n1, n3⟩ := slot3 HSK.out m3
          have HR := Lib.hid hS7.out.1.reads_
          have hfl := fstL_len [] M
          have hml := HM.out.2.1
          simp only [List.length_nil, Nat.zero_add] at hfl
          by_cases hn : s.n ≤ ((fstL [] M).length : Int)
          · have HT := Lib.hid (stT_3 (a := a) m3 hn)
            obtain ⟨y, hy⟩ : ∃ y, y = (fstL [] M).getD (s.n - 1).toNat 0 := ⟨_, rfl⟩
            rw [← hy] at HT
            have HY := Lib.hid hy
            clear hy
            have hkk : (s.n - 1).toNat < (fstL [] M).length := by omega
            have HKK := Lib.hid hkk
            have hn' : ¬ ((fstL [] M).length : Int) < s.n := by omega
            clear hkk
            go_wp2_with (go_at_call 76; refine (spec_l2First _ _ _ M _ rfl (by omega) HR.out).mono ?_; rintro e w8 ⟨vF, rfl, hF, hb8⟩; have hS8 := Lib.hid (hS7.out.below hb8); obtain ⟨gF, eF⟩ := hF.own (by have := HKK.out; omega); obtain ⟨cF, rfl, _, _⟩ := hF.block eF; have dF := hF.at_ HKK.out; have dG : w8.cell? ⟨gF, s.n.toNat - 1, none⟩ = some (.int .i64 y) := by { rw [show s.n.toNat - 1 = (s.n - 1).toNat by omega, HY.out]; exact dF }; clear dF d7 y7 c1 y1 hF eF; replace B7 := B7.below hb8; clear hb8; obtain ⟨d7, y7⟩ := B7.facts)
            go_meet
            case rel => exact ⟨_, rfl, HT.out, hS8⟩
          · have HT := Lib.hid (HSTOP.out (stT_3n (a := a) m3 hn))
            have hn' : ((fstL [] M).length : Int) < s.n := by omega
            go_wp2_with (go_at_call 76; refine (spec_l2First _ _ _ M _ rfl (by omega) HR.out).mono ?_; rintro e w8 ⟨vF, rfl, hF, hb8⟩; have hS8 := Lib.hid (hS7.out.below hb8); obtain ⟨AF, cF, rfl, _⟩ := hF.shape; clear d7 y7 c1 y1 hF; replace B7 := B7.below hb8; clear hb8; obtain ⟨d7, y7⟩ := B7.facts)
            go_ret2
            obtain ⟨gm', go', _, eo', _⟩ := hS8.out.2.2.1
            exact ⟨_, _, _, rfl, hS8.out.2.1, ⟨_, eo'⟩, .inr ⟨rfl, HT.out⟩, hS8.out.2.2.2.2⟩
        have b3 : (s.m == 3) = false := by simpa using m3
        by_cases m4 : s.m = 4
        · have HT := Lib.hid (stT_4 (a := a) (M := M) m4)
          obtain ⟨q, hq⟩ : ∃ q, M.length = q + 1 := ⟨M.length - 1, by have := HM.out.1; omega⟩
          rw [show M.length - 1 = q by omega] at HT
          have d0 := hS7.out.1.at_ (k := q) (by omega)
          have hq5 : q < 5 := by have := HM.out.2.1; omega
          generalize M.length = z at *
          subst hq
          go_wp2
          go_meet
          case rel => exact ⟨_, rfl, HT.out, hS7⟩
        have b4 : (s.m == 4) = false := by simpa using m4
        have HT := Lib.hid (stT_5 (a := a) (M := M) m1 m2 m3 m4)
        go_wp2
        go_meet
        case rel => exact ⟨_, rfl, HT.out, hS7⟩
      case rest =>
        obtain ⟨t, rfl, ht, hS8⟩ := hcut
        have HN1 := Lib.hid (HNEXT.out t ht).1
        have HN2 := Lib.hid (HNEXT.out t ht).2
        obtain ⟨sg5, sgn⟩ := HSIGN.out t ht
        have hzz := hS8.out.2.2.2.2.size
        clear d7 y7 B7 hS7 HNEXT HSTOP HSIGN ht
        by_cases m5 : s.m = 5
        · have t0 := sg5 m5
          subst t0
          have HE : Hid (stM M s 0 = M) := if_pos m5
          clear sg5 sgn m5
          go_wp2_with (at_builtin; refine wp_append3 rfl _ _ rfl u5 O 0 _ rfl rfl hS8.out.2.1 hzz (by have := HM.out; omega) ?_; intro v' w9 hi9 hg9 hat9)
          have HN := Lib.hid (hS8.out.appO hi9 hg9 hat9)
          clear hi9 hg9 hat9
          go_roundw
          case rel => exact ⟨k + 1, M, O ++ [0], by omega, by go_num, by have := HN1.out; rw [HE.out] at this; exact this, by have := HN2.out; rw [HE.out] at this; exact this, HN⟩
          case measure => simp [intOf]; omega
        · have tp := sgn m5
          have HE : Hid (stM M s t = M ++ [t]) := if_neg m5
          clear sg5 sgn m5
          go_upto_region 24 with (at_builtin; refine wp_append3 rfl _ _ rfl (.slice (some ⟨gm, 0, none⟩) M.length cm) M t _ rfl rfl hS8.out.1 hzz (by have := HM.out; omega) ?_; intro v' w9 hi9 hg9 hat9)
          have H9 := Lib.hid (hS8.out.appM hi9 hg9 hat9)
          have hz9 := H9.out.2.2.2.2.size
          clear hi9 hg9 hat9 hS8 hzz
          go_wp2_with (at_builtin; refine wp_append3 rfl _ _ rfl u5 O t _ rfl rfl H9.out.2.1 hz9 (by have := HM.out; omega) ?_; intro v2 w10 hi10 hg10 hat10)
          have HN := Lib.hid (H9.out.appO hi10 hg10 hat10)
          clear hi10 hg10 hat10
          go_roundw
          case rel => exact ⟨k + 1, M ++ [t], O ++ [t], by omega, by go_num, by have := HN1.out; rw [HE.out] at this; exact this, by have := HN2.out; rw [HE.out] at this; exact this, HN⟩
          case measure => simp [intOf]; omega
    · obtain rfl : k = ss.length := by omega
      obtain ⟨c1, y1⟩ := hS.out.facts
      go_wp2
      go_ret2
      obtain ⟨gm', go', _, eo', _⟩ := hS.out.2.2.1
      exact ⟨_, _, _, rfl, hS.out.2.1, ⟨_, eo'⟩, .inl ⟨rfl, _, hst.out⟩, hS.out.2.2.2.2⟩
end Go.Proofs.Ytonkblhajbphmaa
