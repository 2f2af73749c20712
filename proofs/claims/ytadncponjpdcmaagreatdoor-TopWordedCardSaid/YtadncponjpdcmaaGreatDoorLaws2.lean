/-
  The plain laws of texts: a line's words, whatever blanks; the rows of a text; what is parsed.
-/
import Derived.Test.YtadncponjpdcmaaGreatDoorLaws
namespace Go.Proofs.YtadncponjpdcmaaGreatDoor
open Go.RowKit

/-! ### Words -/

def NoB (k : UInt8) (p : Bs) : Prop := ∀ c ∈ p, c ≠ k
def GoodW (ws : List Bs) : Prop := ∀ s ∈ ws, s ≠ [] ∧ ∀ c ∈ s, 32 < c.toNat

theorem noB_of {p : Bs} (h : ∀ c ∈ p, 32 < c.toNat) {k : UInt8} (hk : k.toNat ≤ 32) : NoB k p := fun c hc e => by
  have := h c hc
  subst e
  omega

theorem wordsL_nil : wordsL [] = [] := rfl
theorem wordsL_sp (l : Bs) : wordsL (32 :: l) = wordsL l := by
  unfold wordsL
  rw [split1, if_pos rfl]
  simp
theorem wordsL_one (p : Bs) (h : NoB 32 p) (hp : p ≠ []) : wordsL p = [p] := by
  unfold wordsL
  rw [split1_none 32 p h]
  cases p with
  | nil => exact absurd rfl hp
  | cons c r => simp
theorem wordsL_word (p l : Bs) (h : NoB 32 p) (hp : p ≠ []) : wordsL (p ++ 32 :: l) = p :: wordsL l := by
  unfold wordsL
  rw [split1_sep 32 p l h]
  cases p with
  | nil => exact absurd rfl hp
  | cons c r => simp

theorem wordsL_join : ∀ (x : Bs) (r : List Bs), GoodW (x :: r) → wordsL (x ++ Lib.joinTail [32] r) = x :: r
  | x, [], h => by
    obtain ⟨h1, h2⟩ := h x (by simp)
    have e : x ++ Lib.joinTail [32] [] = x := by simp [Lib.joinTail]
    rw [e, wordsL_one x (noB_of h2 (by decide)) h1]
  | x, y :: r, h => by
    obtain ⟨h1, h2⟩ := h x (by simp)
    have e : x ++ Lib.joinTail [32] (y :: r) = x ++ 32 :: (y ++ Lib.joinTail [32] r) := by simp [Lib.joinTail]
    rw [e, wordsL_word x _ (noB_of h2 (by decide)) h1, wordsL_join y r (fun s hs => h s (by simp at hs ⊢; exact .inr hs))]

/-- Each blank three times. -/
def three (l : Bs) : Bs := l.flatMap fun c => if c = 32 then [32, 32, 32] else [c]
theorem three_none (p : Bs) (h : NoB 32 p) : three p = p := by
  induction p with
  | nil => rfl
  | cons c r ih =>
    have h1 : c ≠ 32 := h c (by simp)
    unfold three at ih ⊢
    rw [List.flatMap_cons, if_neg h1, ih (fun d hd => h d (by simp [hd]))]
    rfl
theorem three_app (a b : Bs) : three (a ++ b) = three a ++ three b := by simp [three]

theorem wordsL_three : ∀ (x : Bs) (r : List Bs), GoodW (x :: r) → wordsL (three (x ++ Lib.joinTail [32] r) ++ [32]) = x :: r
  | x, [], h => by
    obtain ⟨h1, h2⟩ := h x (by simp)
    have e : x ++ Lib.joinTail [32] [] = x := by simp [Lib.joinTail]
    rw [e, three_none x (noB_of h2 (by decide)), wordsL_word x [] (noB_of h2 (by decide)) h1, wordsL_nil]
  | x, y :: r, h => by
    obtain ⟨h1, h2⟩ := h x (by simp)
    have e : x ++ Lib.joinTail [32] (y :: r) = x ++ ([32] ++ (y ++ Lib.joinTail [32] r)) := by simp [Lib.joinTail]
    have e3 : three [32] = [32, 32, 32] := rfl
    rw [e, three_app, three_app, e3, three_none x (noB_of h2 (by decide))]
    have e2 : x ++ ([32, 32, 32] ++ three (y ++ Lib.joinTail [32] r)) ++ [32] = x ++ 32 :: (32 :: 32 :: (three (y ++ Lib.joinTail [32] r) ++ [32])) := by simp
    rw [e2, wordsL_word x _ (noB_of h2 (by decide)) h1, wordsL_sp, wordsL_sp, wordsL_three y r (fun s hs => h s (by simp at hs ⊢; exact .inr hs))]

theorem replaceK_one (k : UInt8) (new : Bs) : ∀ s : Bs, Lib.replaceK [k] new (Lib.count s [k]) s = s.flatMap fun c => if c = k then new else [c]
  | [] => by rw [Lib.count_miss (by simp [Lib.index])]; rfl
  | c :: l => by
    have ih := replaceK_one k new l
    by_cases h : c = k
    · subst h
      rw [Lib.count_cons_eq, Nat.add_comm, Lib.replaceK_hit [c] new _ (c :: l) 0 (index_cons_eq c l)]
      simp only [List.take_zero, List.nil_append, Nat.zero_add, List.length_singleton, List.drop_succ_cons, List.drop_zero]
      rw [ih, List.flatMap_cons, if_pos rfl]
    · rw [Lib.count_cons_ne _ _ _ h, List.flatMap_cons, if_neg h, ← ih]
      by_cases hm : Lib.index l [k] = -1
      · have h0 : Lib.count l [k] = 0 := Lib.count_miss hm
        rw [h0]
        rfl
      · have hge := Lib.index_ge l [k]
        obtain ⟨j, hj⟩ : ∃ j : Nat, Lib.index l [k] = j := ⟨(Lib.index l [k]).toNat, by omega⟩
        have hix : Lib.index (c :: l) [k] = ((j + 1 : Nat) : Int) := by
          rw [index_cons_ne _ _ _ h, hj]
          rw [if_neg (by simp <;> omega)]; omega
        rw [Lib.count_hit (by simp) hj, Nat.add_comm 1, Lib.replaceK_hit _ _ _ _ _ hix, Lib.replaceK_hit _ _ _ _ _ hj]
        have e : (c :: l).drop (j + 1 + [k].length) = l.drop (j + [k].length) := by
          rw [show j + 1 + [k].length = (j + [k].length) + 1 by omega, List.drop_succ_cons]
        rw [e, List.take_succ_cons]
        simp

theorem replaceAll_three (s : Bs) : Lib.replaceAll s [32] [32, 32, 32] = three s := by
  unfold Lib.replaceAll Lib.replace
  rw [if_neg (by decide)]
  unfold Lib.replaceNum
  rw [if_pos (by omega)]
  exact replaceK_one 32 [32, 32, 32] s

/-! ### Rows -/

theorem index_hit (k : UInt8) (t : Bs) : ∀ p : Bs, NoB k p → Lib.index (p ++ k :: t) [k] = p.length
  | [], _ => index_cons_eq k t
  | c :: p, h => by
    have h1 : c ≠ k := h c (by simp)
    have ih := index_hit k t p (fun d hd => h d (by simp [hd]))
    rw [List.cons_append, index_cons_ne _ _ _ h1, ih, if_neg (by simp <;> omega)]
    simp
theorem index_miss (k : UInt8) : ∀ p : Bs, NoB k p → Lib.index p [k] = -1
  | [], _ => by simp [Lib.index]
  | c :: p, h => by
    have h1 : c ≠ k := h c (by simp)
    have ih := index_miss k p (fun d hd => h d (by simp [hd]))
    rw [index_cons_ne _ _ _ h1, ih]
    rfl

theorem cut_hit (k : UInt8) (p t : Bs) (h : NoB k p) : Lib.cut (p ++ k :: t) [k] = (p, t, true) := by
  unfold Lib.cut
  rw [index_hit k t p h, if_pos (by omega)]
  simp
theorem cut_miss (k : UInt8) (p : Bs) (h : NoB k p) : Lib.cut p [k] = (p, [], false) := by
  unfold Lib.cut
  rw [index_miss k p h, if_neg (by omega)]

/-- The rows of a text. -/
def IsRows (t : Bs) : List Bs → Prop
  | [] => t = []
  | p :: r => t ≠ [] ∧ (Lib.cut t [10]).1 = p ∧ IsRows (Lib.cut t [10]).2.1 r

def glue (rows : List Bs) : Bs := rows.flatMap fun p => p ++ [10]
theorem glue_cons (p : Bs) (r : List Bs) : glue (p :: r) = p ++ 10 :: glue r := by simp [glue]
theorem glue_app (a b : List Bs) : glue (a ++ b) = glue a ++ glue b := by simp [glue]

theorem rows_glue : ∀ rows : List Bs, (∀ p ∈ rows, NoB 10 p) → IsRows (glue rows) rows
  | [], _ => rfl
  | p :: r, h => by
    refine ⟨by rw [glue_cons]; simp, ?_, ?_⟩
    · rw [glue_cons, cut_hit 10 p _ (h p (by simp))]
    · rw [glue_cons, cut_hit 10 p _ (h p (by simp))]
      exact rows_glue r (fun q hq => h q (by simp [hq]))

theorem rows_join : ∀ rows : List Bs, (∀ p ∈ rows, NoB 10 p ∧ p ≠ []) → IsRows (Lib.join rows [10]) rows
  | [], _ => rfl
  | [p], h => by
    obtain ⟨h1, h2⟩ := h p (by simp)
    rw [Lib.join_one]
    refine ⟨h2, ?_, ?_⟩
    · rw [cut_miss 10 p h1]
    · rw [cut_miss 10 p h1]; rfl
  | p :: q :: r, h => by
    obtain ⟨h1, h2⟩ := h p (by simp)
    have e : Lib.join (p :: q :: r) [10] = p ++ 10 :: Lib.join (q :: r) [10] := by
      rw [Lib.join_cons, Lib.join_cons]; simp [Lib.joinTail]
    rw [e]
    refine ⟨by simp, ?_, ?_⟩
    · rw [cut_hit 10 p _ h1]
    · rw [cut_hit 10 p _ h1]
      exact rows_join (q :: r) (fun s hs => h s (by simp at hs ⊢; exact .inr hs))

theorem trim_glue (rows : List Bs) : Lib.trimSuffix (glue rows) [10] = Lib.join rows [10] := by
  have hg : ∀ (p : Bs) (r : List Bs), glue (p :: r) = Lib.join (p :: r) [10] ++ [10] := by
    intro p r
    induction r generalizing p with
    | nil => rw [Lib.join_one]; simp [glue]
    | cons q r ih =>
      rw [glue_cons, ih q, Lib.join_cons p, Lib.join_cons q]
      simp [Lib.joinTail]
  cases rows with
  | nil => rfl
  | cons p r =>
    rw [hg]
    unfold Lib.trimSuffix Lib.hasSuffix
    rw [if_pos (by rw [List.isSuffixOf_iff_suffix]; exact ⟨_, rfl⟩)]
    simp

/-! ### What is parsed -/

/-- A row that holds no op: without words, or a comment. -/
def skipL (s : Bs) : Bool := match wordsL s with
  | [] => true
  | p :: _ => p.head? == some 35

def parseRows : Nat → List Bs → List OpL → List OpL × Nat × Nat
  | _, [], acc => (acc, 0, 0)
  | n, s :: r, acc => if skipL s then parseRows (n + 1) r acc else if (readL (wordsL s)).2 then parseRows (n + 1) r (acc ++ [(readL (wordsL s)).1]) else ([], n, 320)

theorem parse_skips : ∀ (sk r : List Bs) (n : Nat) (acc : List OpL), (∀ s ∈ sk, skipL s = true) → parseRows n (sk ++ r) acc = parseRows (n + sk.length) r acc
  | [], r, n, acc, _ => rfl
  | s :: sk, r, n, acc, h => by
    rw [List.cons_append, parseRows, if_pos (h s (by simp)), parse_skips sk r (n + 1) acc (fun q hq => h q (by simp [hq]))]
    congr 1
    simp; omega

theorem parse_op (s : Bs) (r : List Bs) (n : Nat) (acc : List OpL) (o : OpL) (h : skipL s = false) (ho : readL (wordsL s) = (o, true)) :
    parseRows n (s :: r) acc = parseRows (n + 1) r (acc ++ [o]) := by
  rw [parseRows, if_neg (by rw [h]; decide), ho]
  rfl

theorem parse_bad (s : Bs) (r : List Bs) (n : Nat) (acc : List OpL) (h : skipL s = false) (ho : (readL (wordsL s)).2 = false) :
    parseRows n (s :: r) acc = ([], n, 320) := by
  rw [parseRows, if_neg (by rw [h]; decide), ho]
  rfl

end Go.Proofs.YtadncponjpdcmaaGreatDoor
