/- Plain definitions and small lemmas: no program in sight. Conditions: none. -/
import Derived.WalkKit
import Derived.ProofKit
import Derived.OpenShut
import Derived.ShutString
import Derived.ChangeOld
import Derived.Below
import Derived.WalkSpells
import Derived.WalkLawsBesides
import Derived.Outline
import Derived.Lib.Hide
import Derived.Lib.SmallJoins
import Derived.Handy
namespace Go.Proofs.Ytidpmjjbjdclgaa
open Go.ChangeShapes Go.WideShapes Go.ChangeAt Go.RowKit

/-! ### worlds -/
theorem bstep {a b c : World} (h : Below a.heap.size a b) (k : Below b.heap.size b c) : Below a.heap.size a c := h.trans (k.mono h.size)
theorem balloc {a b : World} (h : Below a.heap.size a b) (o : Obj) : Below a.heap.size a (b.alloc o) := h.alloc h.size o
theorem bdrew {a b : World} (h : Below a.heap.size a b) : Below a.heap.size a b.drew := h.drew
theorem bset {a b : World} (h : Below a.heap.size a b) {p : Addr} (hp : a.heap.size ≤ p.block) (u : Value) : Below a.heap.size a (b.setCell p u) := h.setCell hp u
theorem bcell {W w1 : World} (hb : Below W.heap.size W w1) : (∀ b o, b < W.heap.size → w1.cell? ⟨b, o, none⟩ = W.cell? ⟨b, o, none⟩) ∧ (∀ b o, b < W.heap.size → w1.frozen? ⟨b, o, none⟩ = W.frozen? ⟨b, o, none⟩) :=
  ⟨fun b o h => hb.cell (p := ⟨b, o, none⟩) h, fun b o h => hb.frozen (p := ⟨b, o, none⟩) h⟩

/-! ### ranges -/
def inB (lo n hi : Int) : Bool := decide (lo ≤ n) && decide (n ≤ hi)
theorem inB_true {lo n hi : Int} : inB lo n hi = true ↔ lo ≤ n ∧ n ≤ hi := by simp [inB]
theorem inB_false {lo n hi : Int} : inB lo n hi = false ↔ n < lo ∨ hi < n := by
  rw [← Bool.not_eq_true, inB_true]; omega
theorem nine {x : Int} (h : inB 1 x 9 = true) : x = 1 ∨ x = 2 ∨ x = 3 ∨ x = 4 ∨ x = 5 ∨ x = 6 ∨ x = 7 ∨ x = 8 ∨ x = 9 := by rw [inB_true] at h; omega
theorem eight {x : Int} (h : inB 1 x 8 = true) : x = 1 ∨ x = 2 ∨ x = 3 ∨ x = 4 ∨ x = 5 ∨ x = 6 ∨ x = 7 ∨ x = 8 := by rw [inB_true] at h; omega
theorem seven {x : Int} (h : inB 1 x 7 = true) : x = 1 ∨ x = 2 ∨ x = 3 ∨ x = 4 ∨ x = 5 ∨ x = 6 ∨ x = 7 := by rw [inB_true] at h; omega
theorem six {x : Int} (h : inB 1 x 6 = true) : x = 1 ∨ x = 2 ∨ x = 3 ∨ x = 4 ∨ x = 5 ∨ x = 6 := by rw [inB_true] at h; omega
theorem ret_int {k : IntKind} {a b : Int} (h : a = b) : Ending.returned (.int k a) = .returned (.int k b) := by rw [h]

/-! ### tinctures -/
def twords : List ByteArray := [⟨#[103, 111, 108, 100]⟩, ⟨#[115, 105, 108, 118, 101, 114]⟩, ⟨#[114, 101, 100]⟩, ⟨#[98, 108, 117, 101]⟩, ⟨#[98, 108, 97, 99, 107]⟩, ⟨#[103, 114, 101, 101, 110]⟩, ⟨#[112, 117, 114, 112, 108, 101]⟩, ⟨#[101, 114, 109, 105, 110, 101]⟩, ⟨#[118, 97, 105, 114]⟩]
def tw (x : Int) : ByteArray := twords.getD (x - 1).toNat ⟨#[]⟩
theorem tw_at (x : Int) (h : inB 1 x 9 = true) : (twords.map Value.string)[x.toNat - 1]? = some (.string (tw x)) := by
  rcases nine h with rfl | rfl | rfl | rfl | rfl | rfl | rfl | rfl | rfl <;> rfl
theorem tw_getD (k : Nat) (h : k < 9) : tw ((k : Int) + 1) = twords.getD k ⟨#[]⟩ := by
  unfold tw
  rw [show ((k : Int) + 1 - 1).toNat = k by omega]
def twArr : Array Value := (twords.map Value.string).toArray
theorem twArr_at (k : Nat) (h : k < 9) : twArr[k]? = some (.string (twords.getD k ⟨#[]⟩)) := by
  have hl : k < twords.length := by simpa [twords] using h
  simp [twArr, List.getD_eq_getElem?_getD, hl]
def twV (x : Int) : ByteArray := if inB 1 x 9 then tw x else ⟨#[]⟩
def tcl (x : Int) : Int := if x ≤ 2 then 1 else if x ≤ 7 then 2 else 3
def tclV (x : Int) : Int := if inB 1 x 9 then tcl x else 0
def tclash (a b : Int) : Bool := a == b || (tcl a == tcl b && tcl a != 3)
def tclashV (a b : Int) : Bool := (inB 1 a 9 && inB 1 b 9) && tclash a b
/-- The place of a text in a list, counted from i; or -1. -/
def idxL : List ByteArray → ByteArray → Nat → Int
  | [], _, _ => -1
  | a :: l, s, i => if s.toList == a.toList then (i : Int) else idxL l s (i + 1)
theorem idxL_step (ws : List ByteArray) (s : ByteArray) (k : Nat) (h : k < ws.length) :
    idxL (ws.drop k) s k = if s.toList == (ws.getD k ⟨#[]⟩).toList then (k : Int) else idxL (ws.drop (k + 1)) s (k + 1) := by
  rw [List.drop_eq_getElem_cons h]
  simp [idxL, List.getD_eq_getElem?_getD, h]
theorem idxL_range (ws : List ByteArray) (s : ByteArray) (k : Nat) : -1 ≤ idxL ws s k ∧ idxL ws s k < (k : Int) + ws.length := by
  induction ws generalizing k with
  | nil => simp [idxL]; omega
  | cons a l ih =>
    have := ih (k + 1)
    unfold idxL
    split <;> simp <;> omega
theorem idx9 (s : ByteArray) : -1 ≤ idxL twords s 0 ∧ idxL twords s 0 < 9 := by
  have := idxL_range twords s 0
  rw [show twords.length = 9 from rfl] at this
  omega
/-- The tincture with a word, or 0. -/
def pt (s : ByteArray) : Int := idxL twords s 0 + 1
theorem pt_range (s : ByteArray) : 0 ≤ pt s ∧ pt s ≤ 9 := by
  have := idx9 s
  unfold pt
  omega
theorem tcl_range (x : Int) : 1 ≤ tcl x ∧ tcl x ≤ 3 := by unfold tcl; split <;> (try split) <;> omega
theorem tclash_comm (a b : Int) : tclash a b = tclash b a := by
  unfold tclash
  rw [Bool.eq_iff_iff]
  simp
  constructor
  · rintro (h | ⟨h, k⟩)
    · exact .inl h.symm
    · exact .inr ⟨h.symm, by rw [← h]; exact k⟩
  · rintro (h | ⟨h, k⟩)
    · exact .inl h.symm
    · exact .inr ⟨h.symm, by rw [← h]; exact k⟩

/-! ### checksums -/
def csl (h : Int) : List UInt8 → Int
  | [] => h
  | c :: l => csl ((41 * h + (c.toNat : Int) + 1) % 999979) l
def csum (s : ByteArray) : Int := csl 7 s.data.toList
def csumV (s : ByteArray) : Int := if s.size ≤ 4000 then csum s else 0
theorem csl_snoc (h : Int) (l : List UInt8) (c : UInt8) : csl h (l ++ [c]) = (41 * csl h l + (c.toNat : Int) + 1) % 999979 := by
  induction l generalizing h with
  | nil => rfl
  | cons d l ih => simp [csl, ih]
theorem csl_range (h : Int) (l : List UInt8) (h0 : 0 ≤ h) (h1 : h < 999979) : 0 ≤ csl h l ∧ csl h l < 999979 := by
  induction l generalizing h with
  | nil => exact ⟨h0, h1⟩
  | cons d l ih => exact ih _ (Int.emod_nonneg _ (by omega)) (Int.emod_lt_of_pos _ (by omega))
theorem take_snoc (s : ByteArray) (k : Nat) (h : k < s.size) : s.data.toList.take (k + 1) = s.data.toList.take k ++ [s[k]] := by
  rw [List.take_succ_eq_append_getElem (by simpa using h)]; rfl

/-! ### fields, groups -/
def fieldOk (d l a b : Int) : Bool := inB 0 d 7 && (inB 0 l 4 && (inB 1 a 9 && (if d == 0 then l == 0 && b == 0 else inB 1 b 9 && b != a)))
def kinds : List ByteArray := [⟨#[108, 105, 111, 110]⟩, ⟨#[101, 97, 103, 108, 101]⟩, ⟨#[102, 105, 115, 104]⟩, ⟨#[114, 111, 115, 101]⟩, ⟨#[115, 116, 97, 114]⟩, ⟨#[116, 111, 119, 101, 114]⟩, ⟨#[107, 101, 121]⟩, ⟨#[115, 119, 111, 114, 100]⟩]
def many (kind count : Int) : Bool := decide (1 < count) && kind != 3
def kd (x : Int) : ByteArray := kinds.getD (x - 1).toNat ⟨#[]⟩
theorem kd_at (x : Int) (h : inB 1 x 8 = true) : (kinds.map Value.string)[x.toNat - 1]? = some (.string (kd x)) := by
  rcases eight h with rfl | rfl | rfl | rfl | rfl | rfl | rfl | rfl <;> rfl
theorem kd_size (x : Int) (h : inB 1 x 8 = true) : (kd x).size ≤ 5 := by
  rcases eight h with rfl | rfl | rfl | rfl | rfl | rfl | rfl | rfl <;> decide
theorem tw_size (x : Int) (h : inB 1 x 9 = true) : (tw x).size ≤ 6 := by
  rcases nine h with rfl | rfl | rfl | rfl | rfl | rfl | rfl | rfl | rfl <;> decide
def kw (kind count : Int) : ByteArray := if many kind count then kd kind ++ ⟨#[115]⟩ else kd kind
def kwV (kind count : Int) : ByteArray := if inB 1 kind 8 && inB 1 count 6 then kw kind count else ⟨#[]⟩
def att (kind : Int) : List ByteArray :=
  if kind = 1 then [⟨#[114, 97, 109, 112, 97, 110, 116]⟩, ⟨#[112, 97, 115, 115, 97, 110, 116]⟩] else if kind = 2 then [⟨#[100, 105, 115, 112, 108, 97, 121, 101, 100]⟩, ⟨#[114, 105, 115, 105, 110, 103]⟩] else if kind = 3 then [⟨#[115, 119, 105, 109, 109, 105, 110, 103]⟩, ⟨#[117, 112, 114, 105, 103, 104, 116]⟩] else []
theorem att_len (k : Int) (h : inB 1 k 8 = true) : (att k).length = if k ≤ 3 then 2 else 0 := by
  rcases eight h with rfl | rfl | rfl | rfl | rfl | rfl | rfl | rfl <;> rfl
def beastV (kind : Int) : Bool := inB 1 kind 8 && decide (kind ≤ 3)
end Go.Proofs.Ytidpmjjbjdclgaa
