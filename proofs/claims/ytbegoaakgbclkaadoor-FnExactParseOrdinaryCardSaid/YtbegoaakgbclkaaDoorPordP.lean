/- Texts of ordinaries, parsed: the plain law. No program in sight. Conditions: as each theorem says. -/
import Derived.Test.YtbegoaakgbclkaaDoorPlain
import Derived.Lib.Split
import Derived.Lib.CountLaws
namespace Go.Proofs.YtbegoaakgbclkaaDoor
set_option linter.unusedSimpArgs false
set_option linter.unusedVariables false
open Go.RowKit

theorem ba_eq {a b : ByteArray} (h : a.data.toList = b.data.toList) : a = b := Go.WideShapes.bytes_inj h
theorem ba_beq {a b : ByteArray} (h : (a.toList == b.toList) = true) : a = b := by
  rw [ByteArray.toList_eq, ByteArray.toList_eq] at h
  exact ba_eq (by simpa using h)
theorem ba_bne {a b : ByteArray} (h : (a.toList == b.toList) = false) : a ≠ b := fun e => by
  subst e
  simp at h
/-! ### lists cut at blanks -/
theorem index_blank : ∀ (a b : List UInt8), (32 : UInt8) ∉ a → Lib.index (a ++ 32 :: b) [32] = a.length
  | [], b, _ => rfl
  | c :: a, b, h => by
    have hc : c ≠ 32 := fun e => h (by simp [e])
    have ih := index_blank a b (fun hm => h (List.mem_cons_of_mem _ hm))
    have hb : ((32 : UInt8) == c) = false := by simpa using Ne.symm hc
    rw [List.cons_append, Lib.index, ih]
    have hp : List.isPrefixOf [(32 : UInt8)] (c :: (a ++ 32 :: b)) = false := by simp [List.isPrefixOf, hb]
    have hn : ((a.length : Int) == -1) = false := by rw [beq_eq_false_iff_ne]; omega
    rw [hp, hn]
    simp
theorem index_noblank : ∀ (a : List UInt8), (32 : UInt8) ∉ a → Lib.index a [32] = -1
  | [], _ => rfl
  | c :: a, h => by
    have hc : c ≠ 32 := fun e => h (by simp [e])
    have ih := index_noblank a (fun hm => h (List.mem_cons_of_mem _ hm))
    have hb : ((32 : UInt8) == c) = false := by simpa using Ne.symm hc
    have hp : List.isPrefixOf [(32 : UInt8)] (c :: a) = false := by simp [List.isPrefixOf, hb]
    rw [Lib.index, ih, hp]
    rfl
def cutL (s : List UInt8) : List (List UInt8) := Lib.splitK [32] 0 (Lib.count s [32]) s
theorem cutL_last (a : List UInt8) (h : (32 : UInt8) ∉ a) : cutL a = [a] := by
  unfold cutL
  rw [Lib.count_miss (index_noblank a h)]
  rfl
theorem cutL_step (a b : List UInt8) (h : (32 : UInt8) ∉ a) : cutL (a ++ 32 :: b) = a :: cutL b := by
  have hi := index_blank a b h
  have hd : (a ++ 32 :: b).drop (a.length + ([32] : List UInt8).length) = b := by
    rw [List.drop_append, List.drop_of_length_le (by simp)]
    simp
  unfold cutL
  rw [Lib.count_hit (by simp) hi, hd, Nat.add_comm 1, Lib.splitK, hi]
  have hn : ((a.length : Int) == -1) = false := by rw [beq_eq_false_iff_ne]; omega
  simp only [hn, Bool.false_eq_true, if_false, Int.toNat_natCast, Nat.add_zero]
  rw [hd]
  simp
theorem cut_last_one : ∀ (a a' b b' : List UInt8), (32 : UInt8) ∉ b → (32 : UInt8) ∉ b' → a ++ 32 :: b = a' ++ 32 :: b' → a = a' ∧ b = b' := fun a a' b b' h h' e => by
  rcases List.append_eq_append_iff.1 e with ⟨us, h1, h2⟩ | ⟨vs, h1, h2⟩
  · cases us with
    | nil =>
      simp at h1 h2
      exact ⟨h1.symm, h2⟩
    | cons c us =>
      simp at h2
      exact absurd (by rw [h2.2]; simp) h
  · cases vs with
    | nil =>
      simp at h1 h2
      exact ⟨h1, h2.symm⟩
    | cons c vs =>
      simp at h2
      exact absurd (by rw [h2.2]; simp) h'
/-! ### the texts -/
def owL (o : Int) : List UInt8 := (ow o).data.toList
def lwL (l : Int) : List UInt8 := (lw l).data.toList
def twL (x : Int) : List UInt8 := (tw x).data.toList
def osL (o l : Int) : List UInt8 := if l = 0 then [97] ++ 32 :: owL o else [97] ++ 32 :: (owL o ++ 32 :: lwL l)
theorem ostart_list (o l : Int) : (ostart o l).data.toList = osL o l := by
  unfold ostart osL owL lwL
  split <;> simp
/-- The text of an ordinary. -/
def otx (o l x : Int) : ByteArray := (ostart o l ++ ⟨#[32]⟩) ++ tw x
theorem otx_list (o l x : Int) : (otx o l x).data.toList = osL o l ++ 32 :: twL x := by
  unfold otx twL
  rw [← ostart_list]
  simp
def wordsL (o l x : Int) : List (List UInt8) := if l = 0 then [[97], owL o, twL x] else [[97], owL o, lwL l, twL x]
theorem five {x : Int} (h : inB 0 x 4 = true) : x = 0 ∨ x = 1 ∨ x = 2 ∨ x = 3 ∨ x = 4 := by rw [inB_true] at h; omega
theorem owL_blank {o : Int} (h : inB 1 o 7 = true) : (32 : UInt8) ∉ owL o := by
  have : (owL o).contains 32 = false := by rcases seven h with rfl | rfl | rfl | rfl | rfl | rfl | rfl <;> kernel_rfl
  simpa using this
theorem lwL_blank {l : Int} (h : inB 0 l 4 = true) : (32 : UInt8) ∉ lwL l := by
  have : (lwL l).contains 32 = false := by rcases five h with rfl | rfl | rfl | rfl | rfl <;> kernel_rfl
  simpa using this
theorem twL_blank {x : Int} (h : inB 1 x 9 = true) : (32 : UInt8) ∉ twL x := by
  have : (twL x).contains 32 = false := by rcases nine h with rfl | rfl | rfl | rfl | rfl | rfl | rfl | rfl | rfl <;> kernel_rfl
  simpa using this
theorem words_of {o l x : Int} (ho : inB 1 o 7 = true) (hl : inB 0 l 4 = true) (hx : inB 1 x 9 = true) : cutL (otx o l x).data.toList = wordsL o l x := by
  rw [otx_list]
  have a0 : (32 : UInt8) ∉ [(97 : UInt8)] := by decide
  unfold osL wordsL
  split
  · rw [show [97] ++ 32 :: owL o ++ 32 :: twL x = [97] ++ 32 :: (owL o ++ 32 :: twL x) by simp, cutL_step _ _ a0, cutL_step _ _ (owL_blank ho), cutL_last _ (twL_blank hx)]
  · rw [show [97] ++ 32 :: (owL o ++ 32 :: lwL l) ++ 32 :: twL x = [97] ++ 32 :: (owL o ++ 32 :: (lwL l ++ 32 :: twL x)) by simp, cutL_step _ _ a0, cutL_step _ _ (owL_blank ho), cutL_step _ _ (lwL_blank hl), cutL_last _ (twL_blank hx)]
theorem osL_inj {o l o' l' : Int} (h1 : inB 1 o 7 = true) (h2 : inB 0 l 4 = true) (h3 : inB 1 o' 7 = true) (h4 : inB 0 l' 4 = true) (e : osL o l = osL o' l') : o = o' ∧ l = l' := by
  have key : ∀ o ∈ [1, 2, 3, 4, 5, 6, (7 : Int)], ∀ l ∈ [0, 1, 2, 3, (4 : Int)], ∀ o' ∈ [1, 2, 3, 4, 5, 6, (7 : Int)], ∀ l' ∈ [0, 1, 2, 3, (4 : Int)], (osL o l == osL o' l') = true → (o == o' && l == l') = true := by
    have hb : ([1, 2, 3, 4, 5, 6, (7 : Int)].all fun o => [0, 1, 2, 3, (4 : Int)].all fun l => [1, 2, 3, 4, 5, 6, (7 : Int)].all fun o' => [0, 1, 2, 3, (4 : Int)].all fun l' => !(osL o l == osL o' l') || (o == o' && l == l')) = true := by kernel_rfl
    intro o ho l hl o' ho' l' hl' he
    have := List.all_eq_true.1 (List.all_eq_true.1 (List.all_eq_true.1 (List.all_eq_true.1 hb o ho) l hl) o' ho') l' hl'
    simpa [he] using this
  have m7 : ∀ {x : Int}, inB 1 x 7 = true → x ∈ [1, 2, 3, 4, 5, 6, (7 : Int)] := fun h => by rcases seven h with rfl | rfl | rfl | rfl | rfl | rfl | rfl <;> decide
  have m5 : ∀ {x : Int}, inB 0 x 4 = true → x ∈ [0, 1, 2, 3, (4 : Int)] := fun h => by rcases five h with rfl | rfl | rfl | rfl | rfl <;> decide
  have := key o (m7 h1) l (m5 h2) o' (m7 h3) l' (m5 h4) (by simpa using e)
  simpa using this
theorem pt_tw0 {x : Int} (h : inB 1 x 9 = true) : pt (tw x) = x := by
  rcases nine h with rfl | rfl | rfl | rfl | rfl | rfl | rfl | rfl | rfl <;> kernel_rfl
theorem oi_ow {o : Int} (h : inB 1 o 7 = true) : idxL owords (ow o) 0 + 1 = o := by
  rcases seven h with rfl | rfl | rfl | rfl | rfl | rfl | rfl <;> kernel_rfl
theorem li_lw {l : Int} (h : inB 0 l 4 = true) (h0 : l ≠ 0) : idxL lwords (lw l) 0 + 1 = l := by
  rcases five h with rfl | rfl | rfl | rfl | rfl
  · exact absurd rfl h0
  all_goals kernel_rfl
theorem idxL_is : ∀ (ws : List ByteArray) (s : ByteArray) (k : Nat), 0 ≤ idxL ws s k → (k : Int) ≤ idxL ws s k ∧ ws.getD ((idxL ws s k).toNat - k) ⟨#[]⟩ = s
  | [], s, k, h => by simp [idxL] at h
  | a :: ws, s, k, h => by
    unfold idxL at h ⊢
    cases he : (s.toList == a.toList)
    · rw [he] at h
      simp only [Bool.false_eq_true, if_false] at h ⊢
      obtain ⟨h1, h2⟩ := idxL_is ws s (k + 1) h
      refine ⟨by omega, ?_⟩
      have e : (idxL ws s (k + 1)).toNat - k = ((idxL ws s (k + 1)).toNat - (k + 1)) + 1 := by omega
      rw [e, List.getD_cons_succ]
      exact h2
    · simp only [if_true]
      refine ⟨Int.le_refl _, ?_⟩
      simp [ba_beq he]
theorem tw_pt {s : ByteArray} (h : pt s ≠ 0) : inB 1 (pt s) 9 = true ∧ tw (pt s) = s := by
  obtain ⟨h1, h2⟩ := pt_range s
  refine ⟨by rw [inB_true]; omega, ?_⟩
  have h3 : 0 ≤ idxL twords s 0 := by unfold pt at *; omega
  have := (idxL_is twords s 0 h3).2
  unfold tw pt
  rw [show (idxL twords s 0 + 1 - 1).toNat = (idxL twords s 0).toNat - 0 by omega]
  exact this
/-! ### what a parse says -/
/-- Bare ordinaries: found, or none. -/
def UnOk (s : ByteArray) (o l : Int) (b : Bool) : Prop := (b = true ∧ inB 1 o 7 = true ∧ inB 0 l 4 = true ∧ ostart o l = s) ∨ (b = false ∧ o = 0 ∧ l = 0 ∧ ∀ o' l', inB 1 o' 7 = true → inB 0 l' 4 = true → ostart o' l' ≠ s)
/-- The last blank, or none. -/
def LastOk (s a b : ByteArray) : Prop := ((32 : UInt8) ∉ b.data.toList) ∧ ((a = ⟨#[]⟩ ∧ b = s) ∨ s.data.toList = a.data.toList ++ 32 :: b.data.toList)
def PoOk (s : ByteArray) (o l x : Int) (b : Bool) : Prop := (b = true ∧ ordOk o l x = true ∧ s = otx o l x) ∨ (b = false ∧ o = 0 ∧ l = 0 ∧ x = 0 ∧ ∀ o l x, ordOk o l x = true → s ≠ otx o l x)
theorem ordOk_parts {o l x : Int} (h : ordOk o l x = true) : inB 1 o 7 = true ∧ inB 0 l 4 = true ∧ inB 1 x 9 = true := by
  unfold ordOk at h
  simpa using h
theorem ordOk_of {o l x : Int} (h1 : inB 1 o 7 = true) (h2 : inB 0 l 4 = true) (h3 : inB 1 x 9 = true) : ordOk o l x = true := by
  unfold ordOk
  rw [h1, h2, h3]
  rfl
theorem otx_inj {o l x o' l' x' : Int} (h : ordOk o l x = true) (h' : ordOk o' l' x' = true) (e : otx o l x = otx o' l' x') : o = o' ∧ l = l' ∧ x = x' := by
  obtain ⟨h1, h2, h3⟩ := ordOk_parts h
  obtain ⟨g1, g2, g3⟩ := ordOk_parts h'
  have e1 := congrArg (fun z : ByteArray => z.data.toList) e
  simp only [otx_list] at e1
  obtain ⟨e2, e3⟩ := cut_last_one _ _ _ _ (twL_blank h3) (twL_blank g3) e1
  obtain ⟨e4, e5⟩ := osL_inj h1 h2 g1 g2 e2
  refine ⟨e4, e5, ?_⟩
  have e6 : tw x = tw x' := ba_eq e3
  rw [← pt_tw0 h3, ← pt_tw0 g3, e6]
theorem po_one {s : ByteArray} {o l x o' l' x' : Int} {b b' : Bool} (h : PoOk s o l x b) (h' : PoOk s o' l' x' b') : o = o' ∧ l = l' ∧ x = x' ∧ b = b' := by
  rcases h with ⟨rfl, h1, rfl⟩ | ⟨rfl, rfl, rfl, rfl, h1⟩
  · rcases h' with ⟨rfl, g1, g2⟩ | ⟨rfl, rfl, rfl, rfl, g1⟩
    · obtain ⟨e1, e2, e3⟩ := otx_inj h1 g1 g2
      exact ⟨e1, e2, e3, rfl⟩
    · exact absurd rfl (g1 _ _ _ h1)
  · rcases h' with ⟨rfl, g1, g2⟩ | ⟨rfl, rfl, rfl, rfl, g1⟩
    · exact absurd g2 (h1 _ _ _ g1)
    · exact ⟨rfl, rfl, rfl, rfl⟩
theorem ostart_ne {o l : Int} : ostart o l ≠ ⟨#[]⟩ := fun e => by
  have := congrArg (fun z : ByteArray => z.data.toList) e
  simp only [ostart_list] at this
  unfold osL at this
  split at this <;> simp at this
/-- The reference's way. -/
theorem po_spec {s a b : ByteArray} {o l : Int} {k : Bool} (hl : LastOk s a b) (hu : UnOk a o l k) : PoOk s (if k && pt b != 0 then o else 0) (if k && pt b != 0 then l else 0) (if k && pt b != 0 then pt b else 0) (k && pt b != 0) := by
  cases hk : (k && pt b != 0)
  · refine .inr ⟨rfl, rfl, rfl, rfl, fun o' l' x' hok e => ?_⟩
    obtain ⟨h1, h2, h3⟩ := ordOk_parts hok
    have es := otx_list o' l' x'
    rw [← e] at es
    obtain ⟨hb, ⟨rfl, rfl⟩ | hs⟩ := hl
    · rw [es] at hb
      exact hb (by simp)
    · rw [hs] at es
      obtain ⟨e1, e2⟩ := cut_last_one _ _ _ _ hb (twL_blank h3) es
      have ea : a = ostart o' l' := ba_eq (by rw [ostart_list]; exact e1)
      have eb : b = tw x' := ba_eq e2
      have hp : pt b = x' := by rw [eb, pt_tw0 h3]
      have hx0 : (x' != 0) = true := by have := (inB_true.1 h3).1; simpa using (by omega : ¬ x' = 0)
      rcases hu with ⟨rfl, -⟩ | ⟨rfl, -, -, hno⟩
      · rw [hp, hx0] at hk
        cases hk
      · exact hno o' l' h1 h2 ea.symm
  · simp only [Bool.and_eq_true] at hk
    obtain ⟨rfl, hp⟩ := hk
    rcases hu with ⟨-, h1, h2, h3⟩ | ⟨h, -⟩
    · have hp' : pt b ≠ 0 := by simpa using hp
      obtain ⟨h4, h5⟩ := tw_pt hp'
      refine .inl ⟨rfl, ordOk_of h1 h2 h4, ?_⟩
      simp only [if_true]
      obtain ⟨hb, ⟨ha, -⟩ | hs⟩ := hl
      · exact absurd (h3.trans ha) ostart_ne
      · refine ba_eq ?_
        rw [hs, otx_list, ← ostart_list, h3]
        unfold twL
        rw [h5]
    · cases h
/-- The program's way: what it finds, it finds; where there is something, it finds that. -/
theorem po_impl {s : ByteArray} {o l x : Int} (hw : ∀ o' l' x', ordOk o' l' x' = true → s = otx o' l' x' → o = o' ∧ l = l' ∧ x = x') :
    PoOk s (if ordOk o l x && (otV o l x).toList == s.toList then o else 0) (if ordOk o l x && (otV o l x).toList == s.toList then l else 0) (if ordOk o l x && (otV o l x).toList == s.toList then x else 0) (ordOk o l x && (otV o l x).toList == s.toList) := by
  cases hk : (ordOk o l x && (otV o l x).toList == s.toList)
  · refine .inr ⟨rfl, rfl, rfl, rfl, fun o' l' x' hok e => ?_⟩
    obtain ⟨rfl, rfl, rfl⟩ := hw o' l' x' hok e
    have hv : otV o l x = s := by unfold otV; rw [if_pos hok, e]; rfl
    rw [hok, hv] at hk
    simp at hk
  · simp only [Bool.and_eq_true] at hk
    obtain ⟨h1, h2⟩ := hk
    simp only [if_true]
    refine .inl ⟨rfl, h1, ?_⟩
    have := ba_beq h2
    unfold otV at this
    rw [if_pos h1] at this
    exact this.symm
theorem po_none {s : ByteArray} (h : ∀ o' l' x', ordOk o' l' x' = true → s ≠ otx o' l' x') : PoOk s 0 0 0 false := .inr ⟨rfl, rfl, rfl, rfl, h⟩
/-! ### the words of the program -/
def cutB (s : ByteArray) : List ByteArray := Lib.splitB ⟨#[32]⟩ 0 (Lib.countB s ⟨#[32]⟩) s
theorem cutB_list (s : ByteArray) : (cutB s).map (·.data.toList) = cutL s.data.toList := Lib.splitB_data _ _ _ _
theorem splitK_len : ∀ (k : Nat) (s : List UInt8), Lib.count s [32] = k → (Lib.splitK [32] 0 k s).length = k + 1
  | 0, _, _ => rfl
  | k + 1, s, h => by
    rcases Lib.index_spec s [32] with ⟨hi, _⟩ | ⟨i, hi, _⟩
    · rw [Lib.count_miss hi] at h
      cases h
    · rw [Lib.count_hit (by simp) hi] at h
      have hn : ((i : Int) == -1) = false := by rw [beq_eq_false_iff_ne]; omega
      have h2 : Lib.count (s.drop (i + ([32] : List UInt8).length)) [32] = k := by omega
      rw [Lib.splitK, hi, hn, if_neg (by simp), Int.toNat_natCast, List.length_cons, splitK_len k _ h2]
theorem cutB_len (s : ByteArray) : (cutB s).length = Lib.countB s ⟨#[32]⟩ + 1 := by
  have h := congrArg List.length (cutB_list s)
  rw [List.length_map] at h
  rw [h]
  exact splitK_len _ _ rfl
theorem cutB_of {o l x : Int} (h : ordOk o l x = true) : cutB (otx o l x) = if l = 0 then [⟨#[97]⟩, ow o, tw x] else [⟨#[97]⟩, ow o, lw l, tw x] := by
  obtain ⟨h1, h2, h3⟩ := ordOk_parts h
  have e := (cutB_list (otx o l x)).trans (words_of h1 h2 h3)
  have e2 : ((if l = 0 then [⟨#[97]⟩, ow o, tw x] else [⟨#[97]⟩, ow o, lw l, tw x] : List ByteArray).map (·.data.toList)) = wordsL o l x := by
    unfold wordsL owL lwL twL
    split <;> rfl
  rw [← e2] at e
  exact (List.map_inj_right (fun a b hab => ba_eq hab)).1 e
/-- What the program makes of its words. -/
def poO (ws : List ByteArray) : Int := idxL owords (ws.getD 1 ⟨#[]⟩) 0 + 1
def poL (ws : List ByteArray) : Int := if ws.length = 4 then idxL lwords (ws.getD 2 ⟨#[]⟩) 0 + 1 else 0
def poX (ws : List ByteArray) : Int := pt (ws.getD (ws.length - 1) ⟨#[]⟩)
theorem po_words {o l x : Int} (h : ordOk o l x = true) : poO (cutB (otx o l x)) = o ∧ poL (cutB (otx o l x)) = l ∧ poX (cutB (otx o l x)) = x ∧ 3 ≤ (cutB (otx o l x)).length ∧ (cutB (otx o l x)).length ≤ 4 := by
  obtain ⟨h1, h2, h3⟩ := ordOk_parts h
  rw [cutB_of h]
  unfold poO poL poX
  by_cases h0 : l = 0
  · rw [if_pos h0]
    refine ⟨oi_ow h1, ?_, pt_tw0 h3, by simp, by simp⟩
    subst h0
    rfl
  · rw [if_neg h0]
    exact ⟨oi_ow h1, li_lw h2 h0, pt_tw0 h3, by simp, by simp⟩
end Go.Proofs.YtbegoaakgbclkaaDoor
