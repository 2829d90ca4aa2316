/- Plain definitions on arms: no program in sight. Conditions: none. -/
import Derived.Test.YtonkblhajbphmaaPlain
namespace Go.Proofs.Ytonkblhajbphmaa
set_option linter.unusedSimpArgs false
set_option linter.unusedVariables false
open Go.RowKit

structure FV where
  d : Int
  l : Int
  a : Int
  b : Int
structure GV where
  c : Int
  k : Int
  a : Int
  t : Int
structure AV where
  f : FV
  o : Int
  l : Int
  t : Int
  on : GV
  ar : GV
def gZero (c k a t : Int) : Bool := c == 0 && (k == 0 && (a == 0 && t == 0))
def FV.ok (f : FV) : Bool := fieldOk f.d f.l f.a f.b
def GV.zero (g : GV) : Bool := gZero g.c g.k g.a g.t
def GV.ok (g : GV) : Bool := groupOk g.c g.k g.a g.t
def gFine (c k a t : Int) : Bool := gZero c k a t || groupOk c k a t
def GV.fine (g : GV) : Bool := gFine g.c g.k g.a g.t
def AV.ok (a : AV) : Bool := a.f.ok && (a.ar.fine && (if a.o == 0 then a.l == 0 && (a.t == 0 && a.on.zero) else ordOk a.o a.l a.t && a.on.fine))
def b2i (b : Bool) : Int := if b then 1 else 0
def AV.layers (a : AV) : Int := 1 + b2i (a.o != 0) + b2i (!a.on.zero) + b2i (!a.ar.zero)
def AV.charges (a : AV) : Int := a.on.c + a.ar.c
def AV.chargesV (a : AV) : Int := if a.ok then a.charges else 0
def AV.layersV (a : AV) : Int := if a.ok then a.layers else 0
theorem groupOk_count {c k a t : Int} (h : groupOk c k a t = true) : 1 ≤ c ∧ c ≤ 6 := by
  unfold groupOk at h
  simp only [Bool.and_eq_true] at h
  exact inB_true.1 h.1
theorem groupOk_tinct {c k a t : Int} (h : groupOk c k a t = true) : inB 1 t 9 = true := by
  unfold groupOk at h
  simp only [Bool.and_eq_true] at h
  exact h.2.2.1
theorem gFine_count {c k a t : Int} (h : gFine c k a t = true) : 0 ≤ c ∧ c ≤ 6 := by
  unfold gFine at h
  rw [Bool.or_eq_true] at h
  rcases h with h | h
  · unfold gZero at h
    simp at h
    omega
  · have := groupOk_count h
    omega
theorem gZero_true {c k a t : Int} : gZero c k a t = true ↔ c = 0 ∧ k = 0 ∧ a = 0 ∧ t = 0 := by simp [gZero]
theorem ok_count {a : AV} (h : a.ok = true) : 0 ≤ a.on.c ∧ a.on.c ≤ 6 ∧ 0 ≤ a.ar.c ∧ a.ar.c ≤ 6 := by
  unfold AV.ok at h
  simp only [Bool.and_eq_true] at h
  obtain ⟨_, h1, h2⟩ := h
  have h3 := gFine_count (c := a.ar.c) h1
  split at h2
  · simp only [Bool.and_eq_true] at h2
    have := gZero_true.1 h2.2.2
    omega
  · simp only [Bool.and_eq_true] at h2
    have := gFine_count (c := a.on.c) h2.2
    omega
theorem ok_ord {a : AV} (h : a.ok = true) : 0 ≤ a.o ∧ a.o ≤ 7 := by
  unfold AV.ok at h
  simp only [Bool.and_eq_true] at h
  obtain ⟨_, _, h2⟩ := h
  split at h2
  · rename_i h0
    simp at h0
    omega
  · simp only [Bool.and_eq_true, ordOk] at h2
    have := inB_true.1 h2.1.1
    omega
/-- Stores into one block, one after another. -/
def setsW (w : World) (g : Nat) : List (Nat × Value) → World
  | [] => w
  | p :: l => setsW (w.setCell ⟨g, p.1, none⟩ p.2) g l
def setsC (cs : Array Value) : List (Nat × Value) → Array Value
  | [] => cs
  | p :: l => setsC (cs.setIfInBounds p.1 p.2) l
theorem Blk.sets : ∀ (l : List (Nat × Value)) {w : World} {g : Nat} {t : TypeId} {cs : Array Value}, Blk w g t cs → Blk (setsW w g l) g t (setsC cs l)
  | [], _, _, _, _, h => h
  | p :: l, _, _, _, _, h => Blk.sets l (h.set_ p.1 p.2)
theorem Blk.setsFar : ∀ (l : List (Nat × Value)) {w : World} {g b : Nat} {t : TypeId} {cs : Array Value}, Blk w b t cs → b ≠ g → Blk (setsW w g l) b t cs
  | [], _, _, _, _, _, h, _ => h
  | p :: l, _, _, _, _, _, h, hn => Blk.setsFar l (h.far (p := ⟨_, p.1, none⟩) hn p.2) hn
theorem calls_sets {P : Program} {k : Nat} {args : Array Value} {Q : Ending → World → Prop} (w : World) (g : Nat) (l : List (Nat × Value)) (h : Calls P k args (setsW w g l) Q) : Calls P k args (setsW w g l) Q := h
theorem calls_sets' {P : Program} {c : Code} {a : Act} {Q : Exit → Act → World → Prop} (w : World) (g : Nat) (l : List (Nat × Value)) (h : c.wp P Q a (setsW w g l)) : c.wp P Q a (setsW w g l) := h
theorem bsets : ∀ (l : List (Nat × Value)) {a b : World} {g : Nat}, Below a.heap.size a b → a.heap.size ≤ g → Below a.heap.size a (setsW b g l)
  | [], _, _, _, h, _ => h
  | p :: l, _, _, _, h, hg => bsets l (bset h (p := ⟨_, p.1, none⟩) hg p.2) hg
end Go.Proofs.Ytonkblhajbphmaa
