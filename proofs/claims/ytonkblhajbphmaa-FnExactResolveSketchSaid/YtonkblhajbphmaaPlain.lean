/- Plain definitions and small lemmas: no program in sight. Conditions: none. -/
import Derived.WalkKit
import Derived.ProofKit
import Derived.OpenShut
import Derived.ShutString
import Derived.ChangeOld
import Derived.Below
import Derived.WalkSpells
import Derived.WalkLawsBesides
import Derived.Outline
import Derived.Lib.Hide
import Derived.Lib.SmallJoins
import Derived.Handy
import Derived.Deep.Draws
namespace Go.Proofs.Ytonkblhajbphmaa
set_option linter.unusedSimpArgs false
set_option linter.unusedVariables false
open Go.ChangeShapes Go.WideShapes Go.ChangeAt Go.RowKit

/-! ### worlds -/
theorem bstep {a b c : World} (h : Below a.heap.size a b) (k : Below b.heap.size b c) : Below a.heap.size a c := h.trans (k.mono h.size)
theorem balloc {a b : World} (h : Below a.heap.size a b) (o : Obj) : Below a.heap.size a (b.alloc o) := h.alloc h.size o
theorem bdrew {a b : World} (h : Below a.heap.size a b) : Below a.heap.size a b.drew := h.drew
theorem bdrewN {a b : World} (h : Below a.heap.size a b) (n : Nat) : Below a.heap.size a (b.drewN n) := ⟨h.os, h.tape, h.output, h.size, h.block⟩
theorem bset {a b : World} (h : Below a.heap.size a b) {p : Addr} (hp : a.heap.size ≤ p.block) (u : Value) : Below a.heap.size a (b.setCell p u) := h.setCell hp u
theorem bcell {W w1 : World} (hb : Below W.heap.size W w1) : (∀ b o, b < W.heap.size → w1.cell? ⟨b, o, none⟩ = W.cell? ⟨b, o, none⟩) ∧ (∀ b o, b < W.heap.size → w1.frozen? ⟨b, o, none⟩ = W.frozen? ⟨b, o, none⟩) :=
  ⟨fun b o h => hb.cell (p := ⟨b, o, none⟩) h, fun b o h => hb.frozen (p := ⟨b, o, none⟩) h⟩

/-- A block that is known whole. -/
def Blk (w : World) (g : Nat) (t : TypeId) (cs : Array Value) : Prop := w.heap[g]? = some (.cells cs t (0, 0))
section
variable {w w' : World} {g : Nat} {t : TypeId} {cs : Array Value}
theorem Blk.lt (h : Blk w g t cs) : g < w.heap.size := by
  rcases Nat.lt_or_ge g w.heap.size with hlt | hge
  · exact hlt
  · unfold Blk at h; rw [Array.getElem?_eq_none hge] at h; cases h
theorem Blk.cell (h : Blk w g t cs) : ∀ i, w.cell? ⟨g, i, none⟩ = cs[i]? := fun i => cell_of_row w g i cs t (0, 0) h
theorem Blk.free (h : Blk w g t cs) : ∀ i, w.frozen? ⟨g, i, none⟩ = false := fun i => by
  unfold Blk at h
  simp [World.frozen?, h]
theorem Blk.new (w : World) (t : TypeId) (cs : Array Value) : Blk (w.alloc (.cells cs t)) w.heap.size t cs := heap_alloc_new w _
theorem Blk.below (h : Blk w g t cs) (hb : Below w.heap.size w w') : Blk w' g t cs := (hb.block g h.lt).trans h
theorem Blk.alloc (h : Blk w g t cs) (o : Obj) : Blk (w.alloc o) g t cs := (Below.heap_alloc w o g h.lt).trans h
theorem Blk.set_ (h : Blk w g t cs) (i : Nat) (u : Value) : Blk (w.setCell ⟨g, i, none⟩ u) g t (cs.setIfInBounds i u) := by
  unfold Blk at h ⊢
  simp [World.setCell, Array.getElem?_modify, h]
theorem Blk.far (h : Blk w g t cs) {p : Addr} (hp : g ≠ p.block) (u : Value) : Blk (w.setCell p u) g t cs := (Below.heap_setCell w p u g hp).trans h
theorem Blk.grown {row : Option Nat} (h : Blk w g t cs) (hb : w.grownBy w' row) (hg : some g ≠ row) : Blk w' g t cs := (hb.block g h.lt hg).trans h
/-- A block just laid, behind a call. -/
theorem blk_new (hb : Below (w.alloc (.cells cs t)).heap.size (w.alloc (.cells cs t)) w') : Blk w' w.heap.size t cs := (Blk.new w t cs).below hb
theorem Blk.all (h : Blk w g t cs) : (∀ i, w.cell? ⟨g, i, none⟩ = cs[i]?) ∧ (∀ i, w.frozen? ⟨g, i, none⟩ = false) ∧ g < w.heap.size := ⟨h.cell, h.free, h.lt⟩
theorem blk_new2 {t2 : TypeId} {cs2 : Array Value} (hb : Below ((w.alloc (.cells cs t)).alloc (.cells cs2 t2)).heap.size ((w.alloc (.cells cs t)).alloc (.cells cs2 t2)) w') :
    Blk w' w.heap.size t cs ∧ Blk w' (w.heap.size + 1) t2 cs2 := by
  refine ⟨((Blk.new w t cs).alloc _).below hb, ?_⟩
  have := blk_new hb
  simpa using this
theorem blk_new3 {t2 t3 : TypeId} {cs2 cs3 : Array Value} (hb : Below (((w.alloc (.cells cs t)).alloc (.cells cs2 t2)).alloc (.cells cs3 t3)).heap.size (((w.alloc (.cells cs t)).alloc (.cells cs2 t2)).alloc (.cells cs3 t3)) w') :
    Blk w' w.heap.size t cs ∧ Blk w' (w.heap.size + 1) t2 cs2 ∧ Blk w' (w.heap.size + 1 + 1) t3 cs3 := by
  refine ⟨(((Blk.new w t cs).alloc _).alloc _).below hb, ?_, ?_⟩
  · have := ((Blk.new (w.alloc (.cells cs t)) t2 cs2).alloc (.cells cs3 t3)).below hb
    simpa using this
  · have := blk_new hb
    simpa using this
theorem blk_two (w : World) (t t2 : TypeId) (cs cs2 : Array Value) : Blk ((w.alloc (.cells cs t)).alloc (.cells cs2 t2)) w.heap.size t cs ∧ Blk ((w.alloc (.cells cs t)).alloc (.cells cs2 t2)) (w.heap.size + 1) t2 cs2 := by
  refine ⟨(Blk.new w t cs).alloc _, ?_⟩
  have := Blk.new (w.alloc (.cells cs t)) t2 cs2
  simpa using this
theorem blk_three (w : World) (t t2 t3 : TypeId) (cs cs2 cs3 : Array Value) : Blk (((w.alloc (.cells cs t)).alloc (.cells cs2 t2)).alloc (.cells cs3 t3)) w.heap.size t cs ∧ Blk (((w.alloc (.cells cs t)).alloc (.cells cs2 t2)).alloc (.cells cs3 t3)) (w.heap.size + 1) t2 cs2 ∧
    Blk (((w.alloc (.cells cs t)).alloc (.cells cs2 t2)).alloc (.cells cs3 t3)) (w.heap.size + 1 + 1) t3 cs3 := by
  refine ⟨(blk_two w t t2 cs cs2).1.alloc _, (blk_two w t t2 cs cs2).2.alloc _, ?_⟩
  have := Blk.new ((w.alloc (.cells cs t)).alloc (.cells cs2 t2)) t3 cs3
  simpa using this
theorem Blk.facts (h : Blk w g t cs) : (∀ i, w.cell? ⟨g, i, none⟩ = cs[i]?) ∧ g < w.heap.size := ⟨h.cell, h.lt⟩
end

/-! ### ranges -/
def inB (lo n hi : Int) : Bool := decide (lo ≤ n) && decide (n ≤ hi)
theorem inB_true {lo n hi : Int} : inB lo n hi = true ↔ lo ≤ n ∧ n ≤ hi := by simp [inB]
theorem inB_false {lo n hi : Int} : inB lo n hi = false ↔ n < lo ∨ hi < n := by
  rw [← Bool.not_eq_true, inB_true]; omega
theorem nine {x : Int} (h : inB 1 x 9 = true) : x = 1 ∨ x = 2 ∨ x = 3 ∨ x = 4 ∨ x = 5 ∨ x = 6 ∨ x = 7 ∨ x = 8 ∨ x = 9 := by rw [inB_true] at h; omega
theorem eight {x : Int} (h : inB 1 x 8 = true) : x = 1 ∨ x = 2 ∨ x = 3 ∨ x = 4 ∨ x = 5 ∨ x = 6 ∨ x = 7 ∨ x = 8 := by rw [inB_true] at h; omega
theorem seven {x : Int} (h : inB 1 x 7 = true) : x = 1 ∨ x = 2 ∨ x = 3 ∨ x = 4 ∨ x = 5 ∨ x = 6 ∨ x = 7 := by rw [inB_true] at h; omega
theorem six {x : Int} (h : inB 1 x 6 = true) : x = 1 ∨ x = 2 ∨ x = 3 ∨ x = 4 ∨ x = 5 ∨ x = 6 := by rw [inB_true] at h; omega
theorem ret_int {k : IntKind} {a b : Int} (h : a = b) : Ending.returned (.int k a) = .returned (.int k b) := by rw [h]

/-! ### tinctures -/
def twords : List ByteArray := [⟨#[103, 111, 108, 100]⟩, ⟨#[115, 105, 108, 118, 101, 114]⟩, ⟨#[114, 101, 100]⟩, ⟨#[98, 108, 117, 101]⟩, ⟨#[98, 108, 97, 99, 107]⟩, ⟨#[103, 114, 101, 101, 110]⟩, ⟨#[112, 117, 114, 112, 108, 101]⟩, ⟨#[101, 114, 109, 105, 110, 101]⟩, ⟨#[118, 97, 105, 114]⟩]
def tw (x : Int) : ByteArray := twords.getD (x - 1).toNat ⟨#[]⟩
theorem tw_at (x : Int) (h : inB 1 x 9 = true) : (twords.map Value.string)[x.toNat - 1]? = some (.string (tw x)) := by
  rcases nine h with rfl | rfl | rfl | rfl | rfl | rfl | rfl | rfl | rfl <;> rfl
theorem tw_getD (k : Nat) (h : k < 9) : tw ((k : Int) + 1) = twords.getD k ⟨#[]⟩ := by
  unfold tw
  rw [show ((k : Int) + 1 - 1).toNat = k by omega]
def twArr : Array Value := (twords.map Value.string).toArray
theorem twArr_at (k : Nat) (h : k < 9) : twArr[k]? = some (.string (twords.getD k ⟨#[]⟩)) := by
  have hl : k < twords.length := by simpa [twords] using h
  simp [twArr, List.getD_eq_getElem?_getD, hl]
def twV (x : Int) : ByteArray := if inB 1 x 9 then tw x else ⟨#[]⟩
def tcl (x : Int) : Int := if x ≤ 2 then 1 else if x ≤ 7 then 2 else 3
def tclV (x : Int) : Int := if inB 1 x 9 then tcl x else 0
def tclash (a b : Int) : Bool := a == b || (tcl a == tcl b && tcl a != 3)
def tclashV (a b : Int) : Bool := (inB 1 a 9 && inB 1 b 9) && tclash a b
/-- The place of a text in a list, counted from i; or -1. -/
def idxL : List ByteArray → ByteArray → Nat → Int
  | [], _, _ => -1
  | a :: l, s, i => if s.toList == a.toList then (i : Int) else idxL l s (i + 1)
theorem idxL_step (ws : List ByteArray) (s : ByteArray) (k : Nat) (h : k < ws.length) :
    idxL (ws.drop k) s k = if s.toList == (ws.getD k ⟨#[]⟩).toList then (k : Int) else idxL (ws.drop (k + 1)) s (k + 1) := by
  rw [List.drop_eq_getElem_cons h]
  simp [idxL, List.getD_eq_getElem?_getD, h]
theorem idxL_range (ws : List ByteArray) (s : ByteArray) (k : Nat) : -1 ≤ idxL ws s k ∧ idxL ws s k < (k : Int) + ws.length := by
  induction ws generalizing k with
  | nil => simp [idxL]; omega
  | cons a l ih =>
    have := ih (k + 1)
    unfold idxL
    split <;> simp <;> omega
theorem idx9 (s : ByteArray) : -1 ≤ idxL twords s 0 ∧ idxL twords s 0 < 9 := by
  have := idxL_range twords s 0
  rw [show twords.length = 9 from rfl] at this
  omega
/-- The tincture with a word, or 0. -/
def pt (s : ByteArray) : Int := idxL twords s 0 + 1
theorem pt_range (s : ByteArray) : 0 ≤ pt s ∧ pt s ≤ 9 := by
  have := idx9 s
  unfold pt
  omega
theorem tcl_range (x : Int) : 1 ≤ tcl x ∧ tcl x ≤ 3 := by unfold tcl; split <;> (try split) <;> omega
theorem tclash_comm (a b : Int) : tclash a b = tclash b a := by
  unfold tclash
  rw [Bool.eq_iff_iff]
  simp
  constructor
  · rintro (h | ⟨h, k⟩)
    · exact .inl h.symm
    · exact .inr ⟨h.symm, by rw [← h]; exact k⟩
  · rintro (h | ⟨h, k⟩)
    · exact .inl h.symm
    · exact .inr ⟨h.symm, by rw [← h]; exact k⟩

def pfV (x : Int) : Int := if inB 1 x 9 then x else 0

/-! ### checksums -/
def csl (h : Int) : List UInt8 → Int
  | [] => h
  | c :: l => csl ((41 * h + (c.toNat : Int) + 1) % 999979) l
def csum (s : ByteArray) : Int := csl 7 s.data.toList
def csumV (s : ByteArray) : Int := if s.size ≤ 4000 then csum s else 0
theorem csl_snoc (h : Int) (l : List UInt8) (c : UInt8) : csl h (l ++ [c]) = (41 * csl h l + (c.toNat : Int) + 1) % 999979 := by
  induction l generalizing h with
  | nil => rfl
  | cons d l ih => simp [csl, ih]
theorem csl_range (h : Int) (l : List UInt8) (h0 : 0 ≤ h) (h1 : h < 999979) : 0 ≤ csl h l ∧ csl h l < 999979 := by
  induction l generalizing h with
  | nil => exact ⟨h0, h1⟩
  | cons d l ih => exact ih _ (Int.emod_nonneg _ (by omega)) (Int.emod_lt_of_pos _ (by omega))
theorem take_snoc (s : ByteArray) (k : Nat) (h : k < s.size) : s.data.toList.take (k + 1) = s.data.toList.take k ++ [s[k]] := by
  rw [List.take_succ_eq_append_getElem (by simpa using h)]; rfl

/-! ### fields, groups -/
def fieldOk (d l a b : Int) : Bool := inB 0 d 7 && (inB 0 l 4 && (inB 1 a 9 && (if d == 0 then l == 0 && b == 0 else inB 1 b 9 && b != a)))
def kinds : List ByteArray := [⟨#[108, 105, 111, 110]⟩, ⟨#[101, 97, 103, 108, 101]⟩, ⟨#[102, 105, 115, 104]⟩, ⟨#[114, 111, 115, 101]⟩, ⟨#[115, 116, 97, 114]⟩, ⟨#[116, 111, 119, 101, 114]⟩, ⟨#[107, 101, 121]⟩, ⟨#[115, 119, 111, 114, 100]⟩]
def many (kind count : Int) : Bool := decide (1 < count) && kind != 3
def kd (x : Int) : ByteArray := kinds.getD (x - 1).toNat ⟨#[]⟩
theorem kd_at (x : Int) (h : inB 1 x 8 = true) : (kinds.map Value.string)[x.toNat - 1]? = some (.string (kd x)) := by
  rcases eight h with rfl | rfl | rfl | rfl | rfl | rfl | rfl | rfl <;> rfl
theorem kd_size (x : Int) (h : inB 1 x 8 = true) : (kd x).size ≤ 5 := by
  rcases eight h with rfl | rfl | rfl | rfl | rfl | rfl | rfl | rfl <;> decide
theorem tw_size (x : Int) (h : inB 1 x 9 = true) : (tw x).size ≤ 6 := by
  rcases nine h with rfl | rfl | rfl | rfl | rfl | rfl | rfl | rfl | rfl <;> decide
def kw (kind count : Int) : ByteArray := if many kind count then kd kind ++ ⟨#[115]⟩ else kd kind
def kwV (kind count : Int) : ByteArray := if inB 1 kind 8 && inB 1 count 6 then kw kind count else ⟨#[]⟩
def att (kind : Int) : List ByteArray :=
  if kind = 1 then [⟨#[114, 97, 109, 112, 97, 110, 116]⟩, ⟨#[112, 97, 115, 115, 97, 110, 116]⟩] else if kind = 2 then [⟨#[100, 105, 115, 112, 108, 97, 121, 101, 100]⟩, ⟨#[114, 105, 115, 105, 110, 103]⟩] else if kind = 3 then [⟨#[115, 119, 105, 109, 109, 105, 110, 103]⟩, ⟨#[117, 112, 114, 105, 103, 104, 116]⟩] else []
theorem att_len (k : Int) (h : inB 1 k 8 = true) : (att k).length = if k ≤ 3 then 2 else 0 := by
  rcases eight h with rfl | rfl | rfl | rfl | rfl | rfl | rfl | rfl <;> rfl
def beastV (kind : Int) : Bool := inB 1 kind 8 && decide (kind ≤ 3)
def groupOk (c k a t : Int) : Bool := inB 1 c 6 && (inB 1 k 8 && (inB 1 t 9 && (if k ≤ 3 then inB 1 a 2 else a == 0)))
def basesL (x : Int) : List Int := if x = 8 then [2, 5] else if x = 9 then [2, 4] else [x]
def basesV (x : Int) : List Int := if inB 1 x 9 then basesL x else []
def rowsL (c : Int) : List Int := if c = 1 then [1] else if c = 2 then [1, 1] else if c = 3 then [2, 1] else if c = 4 then [2, 2] else if c = 5 then [2, 1, 2] else [3, 2, 1]
def rowsV (c : Int) : List Int := if inB 1 c 6 then rowsL c else []
def ftL (d a b : Int) : List Int := if d = 0 then [a] else [a, b]
def ftV (d l a b : Int) : List Int := if fieldOk d l a b then ftL d a b else []
def fpL (d a b : Int) : List Int := if d = 0 then [a] else if d = 4 ∨ d = 5 then [a, b, b, a] else if d = 6 ∨ d = 7 then [a, b, a, b, a, b] else [a, b]
def fpV (d l a b : Int) : List Int := if fieldOk d l a b then fpL d a b else []
def againstTo (x : Int) (k : Nat) : List Int := ((List.range k).map fun (i : Nat) => (i : Int) + 1).filter fun y => !tclash x y
def againstV (x : Int) : List Int := if inB 1 x 9 then againstTo x 9 else []
def poorV (d l a b : Int) : Bool := fieldOk d l a b && (d != 0 && tclash a b)
/-- A field swapped: its two tinctures. -/
def swA (d l a b : Int) : Int := if fieldOk d l a b then (if d = 0 then a else b) else 0
def swB (d l a b : Int) : Int := if fieldOk d l a b then (if d = 0 then b else a) else 0
/-! ### texts -/
def owords : List ByteArray := [⟨#[112, 97, 108, 101]⟩, ⟨#[102, 101, 115, 115]⟩, ⟨#[98, 101, 110, 100]⟩, ⟨#[99, 104, 101, 118, 114, 111, 110]⟩, ⟨#[99, 114, 111, 115, 115]⟩, ⟨#[115, 97, 108, 116, 105, 114, 101]⟩, ⟨#[99, 104, 105, 101, 102]⟩]
def lwords : List ByteArray := [⟨#[101, 110, 103, 114, 97, 105, 108, 101, 100]⟩, ⟨#[119, 97, 118, 121]⟩, ⟨#[101, 109, 98, 97, 116, 116, 108, 101, 100]⟩, ⟨#[105, 110, 100, 101, 110, 116, 101, 100]⟩]
def ow (x : Int) : ByteArray := owords.getD (x - 1).toNat ⟨#[]⟩
def lw (x : Int) : ByteArray := lwords.getD (x - 1).toNat ⟨#[]⟩
theorem four {x : Int} (h : inB 1 x 4 = true) : x = 1 ∨ x = 2 ∨ x = 3 ∨ x = 4 := by rw [inB_true] at h; omega
theorem ow_at (x : Int) (h : inB 1 x 7 = true) : (owords.map Value.string)[x.toNat - 1]? = some (.string (ow x)) := by
  rcases seven h with rfl | rfl | rfl | rfl | rfl | rfl | rfl <;> rfl
theorem ow_at0 (x : Int) (h : inB 1 x 7 = true) : ((⟨#[]⟩ :: owords).map Value.string)[x.toNat]? = some (.string (ow x)) := by
  rcases seven h with rfl | rfl | rfl | rfl | rfl | rfl | rfl <;> rfl
theorem lw_at (x : Int) (h : inB 1 x 4 = true) : (lwords.map Value.string)[x.toNat - 1]? = some (.string (lw x)) := by
  rcases four h with rfl | rfl | rfl | rfl <;> rfl
theorem lw_at0 (x : Int) (h : inB 1 x 4 = true) : ((⟨#[]⟩ :: lwords).map Value.string)[x.toNat]? = some (.string (lw x)) := by
  rcases four h with rfl | rfl | rfl | rfl <;> rfl
theorem ow_size (x : Int) : (ow x).size ≤ 7 := by
  unfold ow
  rcases Nat.lt_or_ge (x - 1).toNat 7 with h | h
  · generalize (x - 1).toNat = n at h
    match n, h with
    | 0, _ | 1, _ | 2, _ | 3, _ | 4, _ | 5, _ | 6, _ => decide
  · rw [List.getD_eq_getElem?_getD, List.getElem?_eq_none (by simpa [owords] using h)]; decide
theorem lw_size (x : Int) : (lw x).size ≤ 9 := by
  unfold lw
  rcases Nat.lt_or_ge (x - 1).toNat 4 with h | h
  · generalize (x - 1).toNat = n at h
    match n, h with
    | 0, _ | 1, _ | 2, _ | 3, _ => decide
  · rw [List.getD_eq_getElem?_getD, List.getElem?_eq_none (by simpa [lwords] using h)]; decide
/-- 'a ' and an ordinary, with its line. -/
def ostart (o l : Int) : ByteArray := if l = 0 then ⟨#[97, 32]⟩ ++ ow o else ((⟨#[97, 32]⟩ ++ ow o) ++ ⟨#[32]⟩) ++ lw l
theorem ostart_size (o l : Int) : (ostart o l).size ≤ 19 := by
  have := ow_size o
  have := lw_size l
  have e1 : (⟨#[97, 32]⟩ : ByteArray).size = 2 := rfl
  have e2 : (⟨#[32]⟩ : ByteArray).size = 1 := rfl
  unfold ostart
  split <;> simp only [ByteArray.size_append, e1, e2] <;> omega
def ordOk (o l t : Int) : Bool := inB 1 o 7 && (inB 0 l 4 && inB 1 t 9)
def otV (o l t : Int) : ByteArray := if ordOk o l t then (ostart o l ++ ⟨#[32]⟩) ++ tw t else ⟨#[]⟩
def starts : List ByteArray := [⟨#[84, 104, 101, 32, 111, 114, 100, 105, 110, 97, 114, 121, 32, 105, 115, 32]⟩, ⟨#[84, 104, 101, 32, 99, 104, 97, 114, 103, 101, 115, 32, 111, 110, 32, 116, 104, 101, 32, 111, 114, 100, 105, 110, 97, 114, 121, 32, 97, 114, 101, 32]⟩, ⟨#[84, 104, 101, 32, 99, 104, 97, 114, 103, 101, 115, 32, 97, 114, 111, 117, 110, 100, 32, 105, 116, 32, 97, 114, 101, 32]⟩]
def fstart (p : Int) : ByteArray := starts.getD (p - 1).toNat ⟨#[]⟩
theorem three {x : Int} (h : inB 1 x 3 = true) : x = 1 ∨ x = 2 ∨ x = 3 := by rw [inB_true] at h; omega
theorem fstart_at (x : Int) (h : inB 1 x 3 = true) : (starts.map Value.string)[x.toNat - 1]? = some (.string (fstart x)) := by
  rcases three h with rfl | rfl | rfl <;> rfl
theorem fstart_at0 (x : Int) (h : inB 1 x 3 = true) : ((⟨#[]⟩ :: starts).map Value.string)[x.toNat]? = some (.string (fstart x)) := by
  rcases three h with rfl | rfl | rfl <;> rfl
theorem fstart_size (x : Int) (h : inB 1 x 3 = true) : (fstart x).size ≤ 32 := by
  rcases three h with rfl | rfl | rfl <;> decide
def findOk (p u l : Int) : Bool := inB 1 p 3 && (inB 1 u 9 && (inB 1 l 9 && tclash u l))
def ftextV (p u l : Int) : ByteArray := if findOk p u l then ((((fstart p ++ tw u) ++ ⟨#[32, 111, 110, 32]⟩) ++ tw l) ++ ⟨#[46]⟩) else ⟨#[]⟩
def okI (ok : Bool) (x : Int) : Int := if ok then x else 0
def joinOk (c k a t c' k' a' t' : Int) : Bool := groupOk c k a t && (groupOk c' k' a' t' && ((k == k' && (a == a' && t == t')) && groupOk (c + c') k a t))
theorem basesV_len (x : Int) : (basesV x).length ≤ 1048576 := by unfold basesV basesL; split <;> (try split) <;> (try split) <;> simp
theorem rowsV_len (x : Int) : (rowsV x).length ≤ 1048576 := by
  unfold rowsV rowsL
  repeat (first | split | simp)
theorem ftV_len (d l a b : Int) : (ftV d l a b).length ≤ 1048576 := by unfold ftV ftL; split <;> (try split) <;> simp
theorem fpV_len (d l a b : Int) : (fpV d l a b).length ≤ 1048576 := by
  unfold fpV fpL
  repeat (first | split | simp)
theorem againstTo_len (x : Int) (k : Nat) : (againstTo x k).length ≤ k := by
  unfold againstTo
  exact Nat.le_trans (List.length_filter_le _ _) (by simp)
theorem againstV_len (x : Int) : (againstV x).length ≤ 1048576 := by
  unfold againstV
  split
  · exact Nat.le_trans (againstTo_len x 9) (by omega)
  · simp
theorem againstTo_succ (x : Int) (k : Nat) : againstTo x (k + 1) = againstTo x k ++ (if tclash x ((k : Int) + 1) then [] else [(k : Int) + 1]) := by
  unfold againstTo
  rw [List.range_succ, List.map_append, List.filter_append]
  congr 1
  simp only [List.map_cons, List.map_nil, List.filter_cons, List.filter_nil]
  cases tclash x ((k : Int) + 1) <;> rfl
end Go.Proofs.Ytonkblhajbphmaa
