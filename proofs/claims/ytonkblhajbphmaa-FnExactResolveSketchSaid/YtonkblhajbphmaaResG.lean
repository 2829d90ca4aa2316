/- Sketches resolved by the program. Conditions: as each theorem says. -/
import Derived.Test.YtonkblhajbphmaaRows
import Derived.Test.YtonkblhajbphmaaResC
import Derived.Test.YtonkblhajbphmaaResF
namespace Go.Proofs.Ytonkblhajbphmaa
set_option linter.unusedSimpArgs false
set_option linter.unusedVariables false
open Go.ChangeShapes Go.WideShapes Go.ChangeAt Go.RowKit

set_option maxRecDepth 100000 in
set_option maxHeartbeats 4000000 in
theorem impl_ResolveSketch (a : AV) (v : Value) (ss : List SV) (w : World) (B : Nat) (hv : Slots w B v ss) : Calls Try.prog 10 #[.agg #[Value.int .i64 a.f.d, Value.int .i64 a.f.l, Value.int .i64 a.f.a, Value.int .i64 a.f.b, Value.int .i64 a.o, Value.int .i64 a.l, Value.int .i64 a.t, Value.int .i64 a.on.c, Value.int .i64 a.on.k, Value.int .i64 a.on.a, Value.int .i64 a.on.t, Value.int .i64 a.ar.c, Value.int .i64 a.ar.k, Value.int .i64 a.ar.a, Value.int .i64 a.ar.t, v]] w fun e w' => e = .returned (.tuple #[.agg #[.int .i64 (resA a ss).f.d, .int .i64 (resA a ss).f.l, .int .i64 (resA a ss).f.a, .int .i64 (resA a ss).f.b, .int .i64 (resA a ss).o, .int .i64 (resA a ss).l, .int .i64 (resA a ss).t, .int .i64 (resA a ss).on.c, .int .i64 (resA a ss).on.k, .int .i64 (resA a ss).on.a, .int .i64 (resA a ss).on.t, .int .i64 (resA a ss).ar.c, .int .i64 (resA a ss).ar.k, .int .i64 (resA a ss).ar.a, .int .i64 (resA a ss).ar.t], .bool (resB a ss)]) ∧ Below w.heap.size w w' := by
  obtain ⟨A, c, rfl, _⟩ := hv.shape
  cases hok : skOk a ss
  all_goals
    go_enter Try.func10, Try.ntmps10
    go_upto_region 1 with fail
    obtain ⟨B1, BR⟩ := blk_two w 40 35 #[Value.int .i64 a.f.d, Value.int .i64 a.f.l, Value.int .i64 a.f.a, Value.int .i64 a.f.b, Value.int .i64 a.o, Value.int .i64 a.l, Value.int .i64 a.t, Value.int .i64 a.on.c, Value.int .i64 a.on.k, Value.int .i64 a.on.a, Value.int .i64 a.on.t, Value.int .i64 a.ar.c, Value.int .i64 a.ar.k, Value.int .i64 a.ar.a, Value.int .i64 a.ar.t, .slice A ss.length c] #[Value.int .i64 AV.none.f.d, Value.int .i64 AV.none.f.l, Value.int .i64 AV.none.f.a, Value.int .i64 AV.none.f.b, Value.int .i64 AV.none.o, Value.int .i64 AV.none.l, Value.int .i64 AV.none.t, Value.int .i64 AV.none.on.c, Value.int .i64 AV.none.on.k, Value.int .i64 AV.none.on.a, Value.int .i64 AV.none.on.t, Value.int .i64 AV.none.ar.c, Value.int .i64 AV.none.ar.k, Value.int .i64 AV.none.ar.a, Value.int .i64 AV.none.ar.t]
    have hW : Below w.heap.size w ((w.alloc (.cells #[Value.int .i64 a.f.d, Value.int .i64 a.f.l, Value.int .i64 a.f.a, Value.int .i64 a.f.b, Value.int .i64 a.o, Value.int .i64 a.l, Value.int .i64 a.t, Value.int .i64 a.on.c, Value.int .i64 a.on.k, Value.int .i64 a.on.a, Value.int .i64 a.on.t, Value.int .i64 a.ar.c, Value.int .i64 a.ar.k, Value.int .i64 a.ar.a, Value.int .i64 a.ar.t, .slice A ss.length c] 40)).alloc (.cells #[Value.int .i64 AV.none.f.d, Value.int .i64 AV.none.f.l, Value.int .i64 AV.none.f.a, Value.int .i64 AV.none.f.b, Value.int .i64 AV.none.o, Value.int .i64 AV.none.l, Value.int .i64 AV.none.t, Value.int .i64 AV.none.on.c, Value.int .i64 AV.none.on.k, Value.int .i64 AV.none.on.a, Value.int .i64 AV.none.on.t, Value.int .i64 AV.none.ar.c, Value.int .i64 AV.none.ar.k, Value.int .i64 AV.none.ar.a, Value.int .i64 AV.none.ar.t] 35)) := (by repeat (first | (with_reducible exact Below.refl _ _) | (with_reducible assumption) | (with_reducible refine balloc ?_ _) | (with_reducible refine bdrew ?_) | (with_reducible refine bdrewN ?_ _) | (with_reducible refine bset ?_ (by first | omega | (simp; done) | (simp; omega)) _) | (with_reducible refine bstep ?_ (by assumption))))
    show Code.wp _ _ _ _ ((w.alloc (.cells #[Value.int .i64 a.f.d, Value.int .i64 a.f.l, Value.int .i64 a.f.a, Value.int .i64 a.f.b, Value.int .i64 a.o, Value.int .i64 a.l, Value.int .i64 a.t, Value.int .i64 a.on.c, Value.int .i64 a.on.k, Value.int .i64 a.on.a, Value.int .i64 a.on.t, Value.int .i64 a.ar.c, Value.int .i64 a.ar.k, Value.int .i64 a.ar.a, Value.int .i64 a.ar.t, .slice A ss.length c] 40)).alloc (.cells #[Value.int .i64 AV.none.f.d, Value.int .i64 AV.none.f.l, Value.int .i64 AV.none.f.a, Value.int .i64 AV.none.f.b, Value.int .i64 AV.none.o, Value.int .i64 AV.none.l, Value.int .i64 AV.none.t, Value.int .i64 AV.none.on.c, Value.int .i64 AV.none.on.k, Value.int .i64 AV.none.on.a, Value.int .i64 AV.none.on.t, Value.int .i64 AV.none.ar.c, Value.int .i64 AV.none.ar.k, Value.int .i64 AV.none.ar.a, Value.int .i64 AV.none.ar.t] 35))
    generalize ((w.alloc (.cells #[Value.int .i64 a.f.d, Value.int .i64 a.f.l, Value.int .i64 a.f.a, Value.int .i64 a.f.b, Value.int .i64 a.o, Value.int .i64 a.l, Value.int .i64 a.t, Value.int .i64 a.on.c, Value.int .i64 a.on.k, Value.int .i64 a.on.a, Value.int .i64 a.on.t, Value.int .i64 a.ar.c, Value.int .i64 a.ar.k, Value.int .i64 a.ar.a, Value.int .i64 a.ar.t, .slice A ss.length c] 40)).alloc (.cells #[Value.int .i64 AV.none.f.d, Value.int .i64 AV.none.f.l, Value.int .i64 AV.none.f.a, Value.int .i64 AV.none.f.b, Value.int .i64 AV.none.o, Value.int .i64 AV.none.l, Value.int .i64 AV.none.t, Value.int .i64 AV.none.on.c, Value.int .i64 AV.none.on.k, Value.int .i64 AV.none.on.a, Value.int .i64 AV.none.on.t, Value.int .i64 AV.none.ar.c, Value.int .i64 AV.none.ar.k, Value.int .i64 AV.none.ar.a, Value.int .i64 AV.none.ar.t] 35)) = W at *
    replace hv := hv.below hW
    go_upto_region 2 with (first
      | ((with_reducible refine wp_ldB ?_ row_sk B1 ?_); (focus (refine ⟨rfl, ⟨_, rfl, ?_⟩, rfl⟩; simp [go_sem]; done)))
      | (go_at_call 24; refine (impl_IsValidSketch a _ ss _ _ hv).mono ?_; rintro e w1 ⟨rfl, hb1⟩; replace B1 := B1.below hb1; replace BR := BR.below hb1; replace hv := hv.below hb1; replace hW := bstep hW hb1; clear hb1))
  · have HE := Lib.hid (res_bad hok)
    go_wp2_with ((with_reducible refine' wp_stB row_impl BR _ _); rotate_left; (focus (refine ⟨rfl, ⟨_, _, rfl, ?_, rfl⟩, rfl, rfl, ?_⟩; (focus (simp [go_sem]; done)); (focus (simp [Value.oneCell']; done)))); intro w3 hg3 hb3)
    refine ret_rowA2 rfl rfl hb3 rfl rfl rfl ?_
    exact ⟨by rw [HE.out.1, HE.out.2]; rfl, bgrown hW hg3 (by omega)⟩
  · have HLEN := Lib.hid (skOk_parts hok).2.1
    go_upto_region 4 with (first | ((with_reducible refine wp_ldB ?_ row_sk B1 ?_); (focus (refine ⟨rfl, ⟨_, rfl, ?_⟩, rfl⟩; simp [go_sem]; done))) | (go_at_call 29; refine (impl_readings a _ ss _ _ hv hok).mono ?_; rintro e w2 ⟨vO, vL, b, rfl, hb, hb2⟩; replace B1 := B1.below hb2; replace BR := BR.below hb2; replace hW := bstep hW hb2; clear hb2 hv))
    rcases hb with ⟨rfl, M, O, hst, hl, hO⟩ | ⟨rfl, hst⟩
    · have HE := Lib.hid (res_good hok hst)
      obtain ⟨A2, c2, rfl, HR2⟩ := own_reads hO
      have HOL : Hid ((nx O).length = ss.length) := by show _ = _; rw [nx_len, hl]
      have hm := Ints.len hO
      clear hst hl hO
      go_wp2_with (first
        | ((with_reducible refine wp_ldB ?_ row_sk B1 ?_); (focus (refine ⟨rfl, ⟨_, rfl, ?_⟩, rfl⟩; simp [go_sem]; done)))
        | (go_at_call 30; refine (impl_filled a _ A2 _ c2 (nx O) rfl hm (by rw [HOL.out, HLEN.out]; exact Nat.le_refl _) _ HR2.out).mono ?_; rintro e w3 ⟨rfl, hb3⟩; replace BR := BR.below hb3; replace hW := bstep hW hb3; clear hb3)
        | ((with_reducible refine' wp_stB row_impl BR _ _); rotate_left; (focus (refine ⟨rfl, ⟨_, _, rfl, ?_, rfl⟩, rfl, rfl, ?_⟩; (focus (simp [go_sem]; done)); (focus (simp [Value.oneCell']; done)))); intro w4 hg4 hb4))
      refine ret_rowA2 rfl rfl hb4 rfl rfl rfl ?_
      exact ⟨by rw [HE.out.1, HE.out.2]; rfl, bgrown hW hg4 (by omega)⟩
    · have HE := Lib.hid (res_stop (a := a) hst)
      clear hst
      go_wp2_with ((with_reducible refine' wp_stB row_impl BR _ _); rotate_left; (focus (refine ⟨rfl, ⟨_, _, rfl, ?_, rfl⟩, rfl, rfl, ?_⟩; (focus (simp [go_sem]; done)); (focus (simp [Value.oneCell']; done)))); intro w3 hg3 hb3)
      refine ret_rowA2 rfl rfl hb3 rfl rfl rfl ?_
      exact ⟨by rw [HE.out.1, HE.out.2]; rfl, bgrown hW hg3 (by omega)⟩
end Go.Proofs.Ytonkblhajbphmaa
