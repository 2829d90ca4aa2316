/- The law FnStrings answers true at every input, and its arguments read afterwards as they did. Conditions: none. -/
import Derived.Test.YtbaekalebodhaaaDoorRows
import Derived.Test.YtbaekalebodhaaaDoorFrame
import Derived.Test.YtbaekalebodhaaaDoorDrawI
import Derived.Test.YtbaekalebodhaaaDoorTamper
import Derived.Deep.RegionWith
import Derived.Lib.ConvBytes
import Derived.Test.YtbaekalebodhaaaDoorTie
import Derived.Test.YtbaekalebodhaaaDoorCards
import Derived.SevenTiedAt
import Derived.Lay
import Derived.Handed
namespace Go.Proofs.YtbaekalebodhaaaDoor.fnStrings
open Go.ChangeShapes Go.WideShapes Go.ChangeAt Go.RowKit
open Go.ChangeMaps (open_string shut_string)
set_option linter.unusedVariables false

set_option linter.unusedSimpArgs false
theorem code_arg' {w : World} {a : Option Addr} {len cap : Nat} {zs : List Int} (h : IsRow .u8 w a len cap zs) (hl : len ≤ 65536) : Code w a len := by
  refine ⟨hl, fun i hi => ?_⟩
  rcases h with ⟨rfl, rfl, rfl, rfl⟩ | ⟨x, rfl, h1, h2, h3, hc, hw⟩
  · omega
  · have hk : i < zs.length := by omega
    have h4 := hc i hk
    have h5 := World.block_lt_of_cell? _ _ h4
    rw [addD_block] at h5
    have h6 := hw (zs.getD i 0) (by simp [List.getD_eq_getElem?_getD, hk])
    have h7 : 0 ≤ zs.getD i 0 ∧ zs.getD i 0 ≤ 255 := by
      generalize zs.getD i 0 = z at h6
      have e1 : IntKind.u8.min = 0 := rfl
      have e2 : IntKind.u8.max = 255 := rfl
      simp [Lit.wf, e1, e2] at h6
      omega
    exact ⟨x, _, rfl, h5, h4, h7.1, h7.2⟩
theorem laws_vBig' (A : Option Addr) (len cap : Nat) (w : World) : Calls Tryd.prog 10 #[.slice A len cap] w fun e w' => e = .returned (.bool (decide (65536 < len))) ∧ w = w' := by
  by_cases h : 65536 < len
  all_goals
    go_enter Tryd.func10, Tryd.ntmps10
    go_wp2
    go_ret
    exact ⟨by simp [h] <;> omega, rfl⟩
theorem laws_vAt' (A : Option Addr) (len cap : Nat) (i : Nat) (hi : i ≤ 100) (w : World) (hc : Code w A len) : Calls Tryd.prog 19 #[.slice A len cap, .int .i64 (i : Int)] w fun e w' => ∃ v : Nat, e = .returned (.int .i64 (v : Int)) ∧ v ≤ 255 ∧ w = w' := by
  have hl := hc.1
  by_cases h : i < len
  · obtain ⟨x, z, rfl, hlt, hcell, h0, h1⟩ := hc.2 i h
    clear hc
    obtain ⟨v, rfl⟩ : ∃ v : Nat, z = (v : Int) := ⟨z.toNat, by omega⟩
    go_enter Tryd.func19, Tryd.ntmps19
    go_wp2
    go_ret
    exact ⟨v, rfl, by omega, rfl⟩
  · clear hc
    have hm : ((i : Int) * 7 + len) % 256 = (((i * 7 + len) % 256 : Nat) : Int) := by omega
    go_enter Tryd.func19, Tryd.ntmps19
    go_wp2
    go_ret
    exact ⟨(i * 7 + len) % 256, by refine congrArg (fun z => Ending.returned (.int .i64 z)) ?_; omega, by omega, rfl⟩
theorem code_below' {w w' : World} {A : Option Addr} {len : Nat} (h : Code w A len) (hb : Below w.heap.size w w') : Code w' A len :=
  ⟨h.1, fun i hi => by obtain ⟨x, v, h1, h2, h3, h4⟩ := h.2 i hi; exact ⟨x, v, h1, Nat.lt_of_lt_of_le h2 hb.size, (hb.cell (p := x.add i) (by rw [addD_block]; exact h2)).trans h3, h4⟩⟩
/-- What is carried. -/
def Car (w W : World) (A : Option Addr) (len : Nat) : Prop := Code W A len ∧ Tab W ∧ Er W ∧ Mx W ∧ Below w.heap.size w W
theorem car_below {w W W' : World} {A : Option Addr} {len : Nat} (h : Car w W A len) (hb : Below W.heap.size W W') : Car w W' A len :=
  ⟨code_below' h.1 hb, Tab.below h.2.1 hb, Er.below h.2.2.1 hb, Mx.below h.2.2.2.1 hb, bstep h.2.2.2.2 hb⟩
theorem fmtV_size (n : Int) : (fmtV n).size ≤ 21 := by
  unfold fmtV
  split
  · rename_i h
    have := (okN_iff n).1 h
    exact numS_size (by omega) (by omega)
  · decide
theorem bytes_facts (w : World) (s : ByteArray) : (∀ j, j < s.size → (Lib.bytesWorld w 5 s).cell? ⟨w.heap.size, j, none⟩ = some (.int .u8 (((s.data.toList.map fun b => (b.toNat : Int)).getD j 0)))) ∧ (∀ j, j < s.size → (Lib.bytesWorld w 5 s).frozen? ⟨w.heap.size, j, none⟩ = false) ∧ w.heap.size < (Lib.bytesWorld w 5 s).heap.size := by
  refine ⟨fun j hj => ?_, fun j hj => ?_, by rw [Lib.bytesWorld_size]; omega⟩
  · rw [Lib.bytesWorld_cell w _ s j hj]
    have : j < s.data.toList.length := by simpa using hj
    have h2 : j < s.data.size := by simpa using this
    rw [List.getD_eq_getElem?_getD, List.getD_eq_getElem?_getD, List.getElem?_map, List.getElem?_eq_getElem this]
    rfl
  · have hs : s.size ≤ (Lib.bytesCells w 5 s).size := by simp [Lib.bytesCells]
    unfold World.frozen?
    simp only [Lib.bytesWorld_at_new]
    simp
    omega
theorem nums_set (s : ByteArray) (k : Nat) (c : Nat) (hc : c < 256) : (strOfNums ((s.data.toList.map fun b => (b.toNat : Int)).set k (c : Int))).data.toList = s.data.toList.set k (UInt8.ofNat c) := by
  rw [strOfNums_data, List.map_set, List.map_map]
  have : ((fun n : Int => UInt8.ofNat n.toNat) ∘ fun b : UInt8 => (b.toNat : Int)) = id := by
    funext b
    simp
  rw [this, List.map_id]
  rfl
theorem turn_byte (b v : Nat) (hb : b < 256) (hv : v ≤ 255) : ∃ c : Nat, bits BinOp.xor IntKind.u8 (b : Int) (IntKind.u8.wrap (IntKind.i64.wrap (1 + (v : Int).tmod 255))) = (c : Int) ∧ c < 256 ∧ c ≠ b := by
  have hd : IntKind.u8.wrap (IntKind.i64.wrap (1 + (v : Int).tmod 255)) = ((1 + v % 255 : Nat) : Int) := by
    rw [show (v : Int).tmod 255 = ((v % 255 : Nat) : Int) from rfl, IntWalk.i64_in _ (by omega), IntKind.wrap_u8']
    omega
  rw [hd, u8_xor_nat b _ hb (by omega)]
  refine ⟨_, rfl, Nat.xor_lt_two_pow (n := 8) (by omega) (by omega), fun h => ?_⟩
  have := congrArg (b ^^^ ·) h
  simp only [← Nat.xor_assoc, Nat.xor_self, Nat.zero_xor] at this
  omega
theorem cells_set {W : World} {g k n : Nat} {xs : List Int} {c : Int} (hx : xs.length = n) (h : ∀ j, j < n → W.cell? ⟨g, j, none⟩ = some (.int .u8 (xs.getD j 0))) (hk : k < n) :
    ∀ i, i < n → (W.setCell ⟨g, k, none⟩ (.int .u8 c)).drew.cell? ⟨g, 0 + i, none⟩ = some (.int .u8 ((xs.set k c).getD i 0)) := by
  intro i hi
  rw [Nat.zero_add]
  show (W.setCell ⟨g, k, none⟩ (.int .u8 c)).cell? ⟨g, i, none⟩ = _
  by_cases e : k = i
  · subst e
    rw [World.cell?_setCell_same _ _ _ (h k hk)]
    rw [List.getD_eq_getElem?_getD, List.getElem?_set_self (by omega)]
    rfl
  · rw [World.cell?_setCell_other _ _ _ _ (by intro e2; injection e2; omega), h i hi]
    rw [List.getD_eq_getElem?_getD, List.getD_eq_getElem?_getD, List.getElem?_set_ne e]
set_option maxRecDepth 20000 in
set_option maxHeartbeats 4000000 in
theorem walk (a0 : Option Addr) (len0 cap0 : Nat) (z0 : List Int) (w : World) (w0 : IsRow .u8 w a0 len0 cap0 z0) (HTab : Tab w) (HEr : Er w) (HMx : Mx w) :
    Calls Tryd.prog 4 #[.slice a0 len0 cap0] w fun e w' => e = .returned (.bool true) ∧ Below w.heap.size w w' := by
  by_cases hbig : 65536 < len0
  · go_enter Tryd.func4, Tryd.ntmps4
    go_wp2_with (go_at_call 10; refine (laws_vBig' _ _ _ _).mono ?_; rintro e w' ⟨rfl, rfl⟩)
    go_ret
    exact ⟨rfl, Below.refl _ _⟩
  have HC : Hid (Car w w a0 len0) := Lib.hid ⟨code_arg' w0 (by omega), HTab, HEr, HMx, Below.refl _ _⟩
  clear w0 HTab HEr HMx
  have HC0 := HC
  go_enter Tryd.func4, Tryd.ntmps4
  go_wp2_with (go_at_call 10; refine (laws_vBig' _ _ _ _).mono ?_; rintro e w' ⟨rfl, rfl⟩)
  clear hbig
  refine (spec_DrawFormatInt a0 len0 cap0 _ HC.out.1).mono ?_
  rintro e w1 ⟨n, rfl, hb1⟩
  have HC1 := Lib.hid (car_below HC.out hb1)
  clear hb1 HC
  go_wp2_with fail
  refine (impl_FormatInt n _ HC1.out.2.1).mono ?_
  rintro e w2 ⟨rfl, hb2⟩
  have HC2 := Lib.hid (car_below HC1.out hb2)
  clear hb2 HC1
  go_wp2_with fail
  refine (spec_FormatInt n _).mono ?_
  rintro e w3 ⟨rfl, hb3⟩
  have HC3 := Lib.hid (car_below HC2.out hb3)
  clear hb3 HC2
  go_wp2_with fail
  refine (spec_DrawParseInt a0 len0 cap0 _ HC3.out.1).mono ?_
  rintro e w4 ⟨t, rfl, ht, hb4⟩
  have HC4 := Lib.hid (car_below HC3.out hb4)
  clear hb4 HC3
  go_wp2_with fail
  refine (impl_ParseInt t (by omega) _ HC4.out.2.1 HC4.out.2.2.1).mono ?_
  rintro e w5 ⟨rfl, hb5⟩
  have HC5 := Lib.hid (car_below HC4.out hb5)
  clear hb5 HC4
  go_wp2_with fail
  refine (spec_ParseInt t (by omega) _).mono ?_
  rintro e w6 ⟨rfl, hb6⟩
  have HC6 := Lib.hid (car_below HC5.out hb6)
  clear hb6 HC5
  generalize (rd t).getD 0 = rt at *
  generalize (rd t).isSome = rk at *
  go_wp2_with fail
  refine (spec_DrawAppendChecksum a0 len0 cap0 _ HC6.out.1).mono ?_
  rintro e w7 ⟨x, rfl, hx, hb7⟩
  have HC7 := Lib.hid (car_below HC6.out hb7)
  clear hb7 HC6
  go_wp2_with fail
  refine (impl_AppendChecksum x (by omega) _ HC7.out.2.1).mono ?_
  rintro e w8 ⟨rfl, hb8⟩
  have HC8 := Lib.hid (car_below HC7.out hb8)
  clear hb8 HC7
  go_wp2_with fail
  refine (spec_AppendChecksum x (by omega) _).mono ?_
  rintro e w9 ⟨rfl, hb9⟩
  have HC9 := Lib.hid (car_below HC8.out hb9)
  clear hb9 HC8
  have hfz := fmtV_size n
  have HF : Hid (okN n = true → rd (fmtV n) = some n) := Lib.hid (fun h => by unfold fmtV; rw [if_pos h]; exact rd_numS h)
  have HP := Lib.hid (impl_ParseInt (fmtV n) (by omega))
  have HV0 : Hid (okSeal x = false → sealV x = ⟨#[]⟩) := Lib.hid sealV_no
  generalize fmtV n = fv at *
  generalize hok : okN n = ok at *
  generalize hsv : sealV x = sv at *
  generalize hos : okSeal x = os at *
  go_wp2_with fail
  refine (HP.out _ HC9.out.2.1 HC9.out.2.2.1).mono ?_
  rintro e w10 ⟨rfl, hb10⟩
  have HC10 := Lib.hid (car_below HC9.out hb10)
  clear hb10 HC9 HP
  have hrd : ok = true → (rd fv).isSome = true ∧ (rd fv).getD 0 = n := fun h => by rw [HF.out h]; exact ⟨rfl, rfl⟩
  clear HF
  generalize (rd fv).isSome = q1 at *
  generalize (rd fv).getD 0 = q2 at *
  cases os
  · have := HV0.out rfl
    subst this
    cases ok
    · go_wp2_with fail
      go_ret
      exact ⟨rfl, HC10.out.2.2.2.2⟩
    · obtain ⟨rfl, rfl⟩ := hrd rfl
      go_wp2_with fail
      go_ret
      exact ⟨rfl, HC10.out.2.2.2.2⟩
  · have hss : sv = sealS x := by rw [← hsv]; exact sealV_yes hos
    have hpa := okSeal_parts hos
    have hzz := sealS_size x
    have hve := ver_sealed hos
    have htam : Hid (∀ (y : ByteArray) (k : Nat) (b c : UInt8), sv.data.toList[k]? = some b → c ≠ b → y.data.toList = sv.data.toList.set k c → okVer y = false) := Lib.hid (fun y k b c hk hc hy => by rw [hss] at hk hy; exact ver_tampered hos k b c hk hc hy)
    rw [← hss] at hpa hzz hve
    have hs1 : sv.size ≤ 4000 := hpa.2
    have hs0 : 1 < sv.size := by omega
    have HY := Lib.hid (impl_VerifyChecksum sv (by omega))
    clear hpa hzz hss hsv hos HV0
    have hw10 : ok = false ∨ ok = true := by cases ok <;> simp
    cases ok
    · clear hrd hw10
      go_wp2_with fail
      refine (HY.out _ HC10.out.2.2.2.1 HC10.out.2.1).mono ?_
      rintro e w11 ⟨rfl, hb11⟩
      have HC11 := Lib.hid (car_below HC10.out hb11)
      rw [hve.1, hve.2]
      clear hb11 HC10 HY hve
      have hcv := Lib.run_convert_string_bytes (P := Tryd.prog) w11 9 25 5 sv Tryd.underlying9 Tryd.underlying25 Tryd.underlying5
      go_upto_region 21 with (fail)
      obtain ⟨HB1, HB2, HB3⟩ := bytes_facts w11 sv
      have HCW := Lib.hid (car_below HC11.out (Lib.bytesWorld_below w11 5 sv))
      have hgw : w.heap.size ≤ w11.heap.size := HC11.out.2.2.2.2.size
      generalize Lib.bytesWorld w11 5 sv = W at *
      generalize grownCap w11 sv.size 0 5 = cp at *
      generalize w11.heap.size = g at *
      clear hcv HC11
      have HB1 := Lib.hid HB1
      have HB2 := Lib.hid HB2
      go_upto_region 22 with (go_at_call 19; refine (laws_vAt' _ _ _ 9 (by omega) _ HCW.out.1).mono ?_; rintro e w' ⟨v9, rfl, hv9, rfl⟩)
      have hkm : ((v9 : Int) % (sv.size : Int)) = ((v9 % sv.size : Nat) : Int) := by rw [Int.natCast_emod]
      have hk : v9 % sv.size < sv.size := Nat.mod_lt _ (by omega)
      rw [hkm]
      clear hkm hv9
      generalize v9 % sv.size = k at *
      obtain ⟨b, hbk⟩ : ∃ b, sv.data.toList[k]? = some b := ⟨_, List.getElem?_eq_getElem (by simpa using hk)⟩
      have hck := HB1.out k hk
      have hfk := HB2.out k hk
      have hbn : (sv.data.toList.map fun b => (b.toNat : Int)).getD k 0 = (b.toNat : Int) := by rw [List.getD_eq_getElem?_getD, List.getElem?_map, hbk]; rfl
      rw [hbn] at hck
      have hb8 := b.toNat_lt
      have HBK := Lib.hid hbk
      have HBN := Lib.hid hbn
      clear hbk hbn
      go_region_with (go_at_call 19; refine (laws_vAt' _ _ _ 10 (by omega) _ (code_below' HCW.out.1 (bdrew (Below.refl _ _)))).mono ?_; rintro e w' ⟨v10, rfl, hv10, rfl⟩)
      all_goals
        obtain ⟨c, hce, hc8, hcb⟩ := turn_byte b.toNat v10 b.toNat_lt hv10
        have hbe : b = sv.data[k] := by have := HBK.out; simpa [hk] using this.symm
        rw [hbe] at hce
        rw [hce]
        have hcell := cells_set (c := (c : Int)) (by simp) HB1.out hk
        have hbw : Below w.heap.size w (W.setCell ⟨g, k, none⟩ (.int .u8 (c : Int))).drew := bdrew (bset HCW.out.2.2.2.2 hgw _)
        have HCX := Lib.hid (car_below HC0.out hbw)
        clear hbw hce HC0 HCW HB1 HB2
        generalize (W.setCell ⟨g, k, none⟩ (.int .u8 (c : Int))).drew = X at *
        have hcv := run_convert_bytes_arg (P := Tryd.prog) X 25 5 Tryd.underlying25 Tryd.underlying5 g 0 sv.size cp _ (by simp) hcell 9 Tryd.underlying9
        have hts := strOfNums_size ((sv.data.toList.map fun b => (b.toNat : Int)).set k (c : Int))
        have hlen : ((sv.data.toList.map fun b => (b.toNat : Int)).set k (c : Int)).length = sv.size := by simp
        rw [hlen] at hts
        have HT := Lib.hid (htam.out _ k b (UInt8.ofNat c) HBK.out (fun e => hcb (by rw [← e]; simp; omega)) (nums_set sv k c hc8))
        clear hcell hlen htam HBK HBN
        generalize strOfNums ((sv.data.toList.map fun b => (b.toNat : Int)).set k (c : Int)) = T at *
        have HY := Lib.hid (impl_VerifyChecksum T (by omega) X HCX.out.2.2.2.1 HCX.out.2.1)
        go_wp2_with fail
        refine (HY.out).mono ?_
        rintro e w12 ⟨rfl, hb12⟩
        have HE := Lib.hid (bstep HCX.out.2.2.2.2 hb12)
        rw [HT.out]
        clear hb12 HCX HY HT hts hcv
        generalize verV T = vt at *
        go_wp2_with fail
        go_ret
        exact ⟨rfl, HE.out⟩
    · obtain ⟨rfl, rfl⟩ := hrd rfl
      clear hw10
      go_wp2_with fail
      refine (HY.out _ HC10.out.2.2.2.1 HC10.out.2.1).mono ?_
      rintro e w11 ⟨rfl, hb11⟩
      have HC11 := Lib.hid (car_below HC10.out hb11)
      rw [hve.1, hve.2]
      clear hb11 HC10 HY hve
      have hcv := Lib.run_convert_string_bytes (P := Tryd.prog) w11 9 25 5 sv Tryd.underlying9 Tryd.underlying25 Tryd.underlying5
      go_upto_region 21 with (fail)
      obtain ⟨HB1, HB2, HB3⟩ := bytes_facts w11 sv
      have HCW := Lib.hid (car_below HC11.out (Lib.bytesWorld_below w11 5 sv))
      have hgw : w.heap.size ≤ w11.heap.size := HC11.out.2.2.2.2.size
      generalize Lib.bytesWorld w11 5 sv = W at *
      generalize grownCap w11 sv.size 0 5 = cp at *
      generalize w11.heap.size = g at *
      clear hcv HC11
      have HB1 := Lib.hid HB1
      have HB2 := Lib.hid HB2
      go_upto_region 22 with (go_at_call 19; refine (laws_vAt' _ _ _ 9 (by omega) _ HCW.out.1).mono ?_; rintro e w' ⟨v9, rfl, hv9, rfl⟩)
      have hkm : ((v9 : Int) % (sv.size : Int)) = ((v9 % sv.size : Nat) : Int) := by rw [Int.natCast_emod]
      have hk : v9 % sv.size < sv.size := Nat.mod_lt _ (by omega)
      rw [hkm]
      clear hkm hv9
      generalize v9 % sv.size = k at *
      obtain ⟨b, hbk⟩ : ∃ b, sv.data.toList[k]? = some b := ⟨_, List.getElem?_eq_getElem (by simpa using hk)⟩
      have hck := HB1.out k hk
      have hfk := HB2.out k hk
      have hbn : (sv.data.toList.map fun b => (b.toNat : Int)).getD k 0 = (b.toNat : Int) := by rw [List.getD_eq_getElem?_getD, List.getElem?_map, hbk]; rfl
      rw [hbn] at hck
      have hb8 := b.toNat_lt
      have HBK := Lib.hid hbk
      have HBN := Lib.hid hbn
      clear hbk hbn
      go_region_with (go_at_call 19; refine (laws_vAt' _ _ _ 10 (by omega) _ (code_below' HCW.out.1 (bdrew (Below.refl _ _)))).mono ?_; rintro e w' ⟨v10, rfl, hv10, rfl⟩)
      all_goals
        obtain ⟨c, hce, hc8, hcb⟩ := turn_byte b.toNat v10 b.toNat_lt hv10
        have hbe : b = sv.data[k] := by have := HBK.out; simpa [hk] using this.symm
        rw [hbe] at hce
        rw [hce]
        have hcell := cells_set (c := (c : Int)) (by simp) HB1.out hk
        have hbw : Below w.heap.size w (W.setCell ⟨g, k, none⟩ (.int .u8 (c : Int))).drew := bdrew (bset HCW.out.2.2.2.2 hgw _)
        have HCX := Lib.hid (car_below HC0.out hbw)
        clear hbw hce HC0 HCW HB1 HB2
        generalize (W.setCell ⟨g, k, none⟩ (.int .u8 (c : Int))).drew = X at *
        have hcv := run_convert_bytes_arg (P := Tryd.prog) X 25 5 Tryd.underlying25 Tryd.underlying5 g 0 sv.size cp _ (by simp) hcell 9 Tryd.underlying9
        have hts := strOfNums_size ((sv.data.toList.map fun b => (b.toNat : Int)).set k (c : Int))
        have hlen : ((sv.data.toList.map fun b => (b.toNat : Int)).set k (c : Int)).length = sv.size := by simp
        rw [hlen] at hts
        have HT := Lib.hid (htam.out _ k b (UInt8.ofNat c) HBK.out (fun e => hcb (by rw [← e]; simp; omega)) (nums_set sv k c hc8))
        clear hcell hlen htam HBK HBN
        generalize strOfNums ((sv.data.toList.map fun b => (b.toNat : Int)).set k (c : Int)) = T at *
        have HY := Lib.hid (impl_VerifyChecksum T (by omega) X HCX.out.2.2.2.1 HCX.out.2.1)
        go_wp2_with fail
        refine (HY.out).mono ?_
        rintro e w12 ⟨rfl, hb12⟩
        have HE := Lib.hid (bstep HCX.out.2.2.2.2 hb12)
        rw [HT.out]
        clear hb12 HCX HY HT hts hcv
        generalize verV T = vt at *
        go_wp2_with fail
        go_ret
        exact ⟨rfl, HE.out⟩

set_option maxRecDepth 100000 in
theorem lifted (os : Os) (started : os.Started) (H : Type) (enc : TypeId × Value → H) :
    ReturnsInHanded {} Tryd.checked os 4 .any (fun w args => (Rows.fnStringsSpec.pre enc Tryd.prog Tryd.f4 [] false w args ∧ laidMetH Tryd.prog Rows.fnStringsRow.laid w) ∧ sizedMet enc Tryd.prog Tryd.f4 (OpenSpec.ofChange Rows.fnStringsSpec) false w args) (Rows.fnStringsSpec.post enc Tryd.prog Tryd.f4 false true false false) := by
  refine handed_shaped (C := Tryd.checked) (X := fun w _ => laidMetH Tryd.prog Rows.fnStringsRow.laid w) (fun _ _ _ hh h => h.of_heap hh) own started (by kernel_rfl) Tryd.func4
    (ChangeSpec.witness_shaped (enc := enc) (C := Tryd.checked) (os := os) (X := fun w _ => laidMetH Tryd.prog Rows.fnStringsRow.laid w) false (World.laidAll Tryd.prog os Rows.fnStringsRow.laid) #[.slice none 0 0] 8 (World.laidAll_os _ _ _)
      (World.shaped_of_ZipB (by kernel_rfl) (by kernel_rfl)) (by kernel_rfl) (by kernel_rfl) (by kernel_rfl)
      (by rw [MakeChecks.laidMetH_plain _ _ _ (by kernel_rfl)]; exact laidMet_laidAll _ (by kernel_rfl) (by kernel_rfl))) ?_
  intro W base args ds gs before hval0 hW hL hsh
  rw [MakeChecks.laidMetH_plain _ _ _ (by kernel_rfl)] at hL
  have hval : ∀ (j : Nat) t v, Tryd.f4.params[j]? = some t → args[j]? = some v → Value.okWide Tryd.prog W .any base t v := hval0
  have hW' := hW
  obtain ⟨p, q, hA0, hV, rfl, hfz, hnd⟩ := hW
  have hA : DataW.TrodAll enc Tryd.prog W 0 (fun _ => true) true Tryd.f4.params.toList args.toList ds p := hA0
  rw [Tryd.params4] at hA hval
  obtain ⟨v0, vs0, d0, ds0, p0, q0, hargs, rfl, rfl, h0, r0⟩ := trodAll_cons hA
  obtain ⟨rfl, rfl, rfl⟩ := trodAll_nil r0
  obtain rfl : args = #[v0] := by cases args; simp_all
  obtain ⟨rfl, rfl⟩ := trodVars_none hV
  have k0 := h0
  have lt0 : ∀ x ∈ p0, x.block < W.heap.size := by obtain ⟨m, hm⟩ := k0; exact DataW.trod_lt m _ _ _ hm
  obtain ⟨a0, len0, cap0, rfl⟩ := okWide_slice Tryd.underlying25 (hval 0 25 v0 rfl rfl)
  obtain ⟨z0, w0⟩ : ∃ zs, IsRow .u8 W a0 len0 cap0 zs := by
    obtain ⟨fuel, hf⟩ := h0
    rcases open_ints Tryd.underlying25 Tryd.underlying5 (by kernel_rfl) hf with ⟨hcs, _⟩ | ⟨x, l, c, zs, hcs, _, hl, hm, hz, _, hcell, hwz⟩
    · simp [Value.cells] at hcs
      obtain ⟨rfl, rfl, rfl⟩ := hcs
      exact ⟨[], .inl ⟨rfl, rfl, rfl, rfl⟩⟩
    · simp [Value.cells] at hcs
      obtain ⟨rfl, rfl, rfl⟩ := hcs
      exact ⟨zs, .inr ⟨_, rfl, hl, hm, by simpa using hz, hcell, hwz⟩⟩
  clear hA0 hval0
  refine (walk a0 len0 cap0 z0 W w0 (tab_of (show laidMet Tryd.prog (_ :: _) W from hL.tail.tail)) (er_of (show laidMet Tryd.prog (_ :: _) W from hL.tail.tail.tail.tail)) (mx_of hsh)).mono fun e W' ⟨he, bel⟩ => ?_
  subst he
  exact ⟨_, rfl, _, _, _, [], _, [], hW', trodAll_mk1 (shut_bool Tryd.underlying4 _), (trodAll_cons_mk (Below.trod laidOut (by kernel_rfl) (of_decide_eq_true (by kernel_rfl)) k0 bel lt0) trodAll_mk0), rfl, bel.frame _, fun h => by cases h⟩

theorem over : Rows.fnStringsRow.holds Tryd.pinned (OpenSpec.ofChange Rows.fnStringsSpec) :=
  OpenClaim.holds_of_wide 4 Tryd.f4 rfl rfl rfl rfl rfl rfl rfl ⟨rfl, rfl, rfl, rfl, rfl⟩ rfl rfl rfl rfl rfl (by kernel_rfl) Tryd.func4 (by kernel_rfl)
    (of_decide_eq_true (by kernel_rfl)) (by unfold Func.isWrapper; first | (rw [if_pos (by decide +kernel)]; kernel_rfl) | (rw [if_neg (by decide +kernel)]; exact ⟨rfl, rfl⟩))
    (fun os started H enc _ => lifted os started H enc)

/-- The statement: the tied card. -/
theorem proved : Rows.FnStringsCardSaid :=
  Claim7.holds_tied_plain_at .later [] _ true _ true over (fun _ h => by cases h) (by kernel_rfl) (fun _ h => by cases h) fnStrings_row_tie rfl ⟨rfl, rfl⟩ (by kernel_rfl) rfl
    (fun f fn hf hfn => by
      obtain rfl : f = 4 := Option.some.inj ((show Tryd.prog.funcNamed "loop.example/g00884/laws.FnStrings" = some 4 by kernel_rfl).symm.trans hf) |>.symm
      obtain rfl : fn = Tryd.f4 := (Option.some.inj (Tryd.func4.symm.trans hfn)).symm
      exact ⟨by kernel_rfl, fun j t ht => by
        rw [Tryd.params4] at ht
        have hm : t ∈ [25] := by simpa using Array.mem_of_getElem? ht
        have hall : ([25].all fun u => !Tryd.prog.wantsStandIn u) = true := by kernel_rfl
        exact (show Tryd.prog.wantsStandIn t = false by simpa using List.all_eq_true.1 hall t hm)⟩)
    (by kernel_rfl)
#print axioms proved
end Go.Proofs.YtbaekalebodhaaaDoor.fnStrings
