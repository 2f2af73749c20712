/-
  What read32 composes: rows, texts, where the line that is none stands.
-/
import Derived.Test.YtadncponjpdcmaaGreatDoorLoose
namespace Go.Proofs.YtadncponjpdcmaaGreatDoor
open Go.RowKit

def kAt (bl : List Nat) (i : Nat) : Nat := if bl.length = 0 then 0 else bl.getD (i % bl.length) 0
def moreR (k : Nat) : List Bs := match k % 5 with
  | 0 => []
  | 1 => [[]]
  | 2 => [[35, 32, 112, 117, 116, 32, 97, 32, 98]]
  | 3 => [[32, 32, 32]]
  | _ => [[32, 35, 120], []]
def moreL (k : Nat) : Bs := glue (moreR k)
def styled (k : Nat) (L : Bs) : Bs := if k / 5 % 2 = 0 then L else [32, 32] ++ three L ++ [32]
def rowsI (bl : List Nat) (ls : List Bs) (i : Nat) : List Bs := moreR (kAt bl i) ++ [styled (kAt bl i) (ls.getD i [])]
def rowsN (bl : List Nat) (ls : List Bs) : Nat → List Bs
  | 0 => []
  | n + 1 => rowsN bl ls n ++ rowsI bl ls n

theorem more_cases (k : Nat) : moreR k ∈ [[], [[]], [[35, 32, 112, 117, 116, 32, 97, 32, 98]], [[32, 32, 32]], [[32, 35, 120], []]] := by
  unfold moreR
  split <;> simp

theorem more_skip (k : Nat) : ∀ s ∈ moreR k, skipL s = true := by
  have h := more_cases k
  have hd : ∀ r ∈ ([[], [[]], [[35, 32, 112, 117, 116, 32, 97, 32, 98]], [[32, 32, 32]], [[32, 35, 120], []]] : List (List Bs)), ∀ s ∈ r, skipL s = true := by decide +kernel
  exact hd _ h
theorem more_noNl (k : Nat) : ∀ s ∈ moreR k, NoB 10 s := by
  have h := more_cases k
  have hd : ∀ r ∈ ([[], [[]], [[35, 32, 112, 117, 116, 32, 97, 32, 98]], [[32, 32, 32]], [[32, 35, 120], []]] : List (List Bs)), ∀ s ∈ r, ∀ c ∈ s, c ≠ 10 := by decide +kernel
  exact hd _ h
theorem more_few (k : Nat) : (moreR k).length ≤ 2 ∧ (moreL k).length ≤ 10 ∧ (Lib.countByte (moreL k) 10) = (moreR k).length := by
  have h := more_cases k
  have hd : ∀ r ∈ ([[], [[]], [[35, 32, 112, 117, 116, 32, 97, 32, 98]], [[32, 32, 32]], [[32, 35, 120], []]] : List (List Bs)), r.length ≤ 2 ∧ (glue r).length ≤ 10 ∧ Lib.countByte (glue r) 10 = r.length := by decide +kernel
  exact hd _ h

/-! ### A good op's line -/

theorem line_shape (o : OpL) : ∃ r, wordsOf o = doW o.d :: r ∧ lineL o = doW o.d ++ Lib.joinTail [32] r := by
  unfold lineL
  have : ∃ r, wordsOf o = doW o.d :: r := ⟨_, rfl⟩
  obtain ⟨r, hr⟩ := this
  exact ⟨r, hr, by rw [hr, Lib.join_cons]⟩

theorem joinTail_bytes (k : UInt8) (hk : k.toNat ≤ 31) : ∀ r : List Bs, GoodW r → NoB k (Lib.joinTail [32] r)
  | [], _ => by intro c hc; simp [Lib.joinTail] at hc
  | x :: r, h => by
    have ih := joinTail_bytes k hk r (fun s hs => h s (by simp [hs]))
    obtain ⟨_, h2⟩ := h x (by simp)
    have e : Lib.joinTail [32] (x :: r) = 32 :: (x ++ Lib.joinTail [32] r) := by simp [Lib.joinTail]
    rw [e]
    intro c hc
    rcases List.mem_cons.1 hc with rfl | hc
    · intro e; subst e; revert hk; decide
    · rcases List.mem_append.1 hc with hc | hc
      · exact noB_of h2 (by omega) c hc
      · exact ih c hc

/-- What the lines of good ops are. -/
structure GoodLine (o : OpL) (L : Bs) : Prop where
  ws : wordsL L = wordsOf o
  st : wordsL ([32, 32] ++ three L ++ [32]) = wordsOf o
  nl : NoB 10 L
  ne : L ≠ []
  short : L.length ≤ 4000

theorem do_head (d : Nat) (h : 1 ≤ d ∧ d ≤ 7) : ((doW d).head? == some 35) = false := by
  obtain ⟨h1, h7⟩ := h
  obtain rfl | rfl | rfl | rfl | rfl | rfl | rfl : d = 1 ∨ d = 2 ∨ d = 3 ∨ d = 4 ∨ d = 5 ∨ d = 6 ∨ d = 7 := by omega
  all_goals decide

theorem line_short (v : VerseL) (hv : VerseOk v) : (lineL (opV v)).length ≤ 4000 := by
  obtain ⟨_, hg⟩ := words_good v hv
  have hf := wordsOf_few (opV v)
  have hl : ∀ s ∈ wordsOf (opV v), s.length ≤ 601 := by
    have h1 := word_length v.nm
    have h2 := word_length v.tx
    have h3 := hv.nm
    have h4 := hv.tx
    have ln : ∀ n : Int, int16 n → (Lib.itoa n).length ≤ 601 := fun n h => by
      have := itoa_length n (by unfold int16 at h; omega) (by unfold int16 at h; omega)
      omega
    have n0 := ln _ hv.c0
    have n1 := ln _ hv.c1
    have n2 := ln _ hv.c2
    have n3 := ln _ hv.c3
    have hdo : ∀ d : Fin 8, (doW d.val).length ≤ 601 := by decide
    have hdf : ∀ b, (defW b).length ≤ 601 := by decide
    intro s hs
    have hd := (opV_ok v hv).1
    have hd2 : (doW (opV v).d).length ≤ 601 := hdo ⟨(opV v).d, by omega⟩
    clear hd
    revert hs hd2
    unfold opV
    split
    all_goals
      intro hs hd2
      simp only [wordsOf, List.mem_cons, List.not_mem_nil, or_false] at hs
      rcases hs with rfl | hs
      · exact hd2
      · first
          | (rcases hs with rfl | rfl | rfl | rfl | rfl <;> first | assumption | omega)
          | (rcases hs with rfl | rfl <;> first | exact hdf _ | omega)
          | (rcases hs with rfl; omega)
  have hll := lens_le 601 _ hl
  unfold lineL
  cases hw : wordsOf (opV v) with
  | nil => simp [Lib.join]
  | cons x r =>
    rw [hw] at hll hf
    rw [Lib.join_length]
    simp at hf hll ⊢
    omega

theorem good_line (v : VerseL) (hv : VerseOk v) : GoodLine (opV v) (lineL (opV v)) := by
  obtain ⟨_, hg⟩ := words_good v hv
  obtain ⟨r, hr, hl⟩ := line_shape (opV v)
  rw [hr] at hg
  have hg' : GoodW (doW (opV v).d :: r) := hg
  refine ⟨?_, ?_, ?_, ?_, line_short v hv⟩
  · rw [hl, hr]; exact wordsL_join _ _ hg'
  · rw [hl, hr]
    have e : [32, 32] ++ three (doW (opV v).d ++ Lib.joinTail [32] r) ++ [32] = 32 :: 32 :: (three (doW (opV v).d ++ Lib.joinTail [32] r) ++ [32]) := by simp
    rw [e, wordsL_sp, wordsL_sp]
    exact wordsL_three _ _ hg'
  · rw [hl]
    intro c hc
    rcases List.mem_append.1 hc with hc | hc
    · exact noB_of (hg' _ (by simp)).2 (by decide) c hc
    · exact joinTail_bytes 10 (by decide) r (fun s hs => hg' s (by simp [hs])) c hc
  · rw [hl]
    have := (hg' (doW (opV v).d) (by simp)).1
    intro e
    exact this (List.append_eq_nil_iff.1 e).1

theorem good_op (v : VerseL) (hv : VerseOk v) : GoodOp (opV v) :=
  ⟨(opV_ok v hv).1, (opV_ok v hv).2, (words_good v hv).1, read_words v hv, line_short v hv⟩

theorem styled_words {o : OpL} {L : Bs} (h : GoodLine o L) (k : Nat) : wordsL (styled k L) = wordsOf o := by
  unfold styled
  split
  · exact h.ws
  · exact h.st

theorem three_noB (l : Bs) (h : NoB 10 l) : NoB 10 (three l) := by
  intro c hc
  obtain ⟨d, hd, hc⟩ := List.mem_flatMap.1 hc
  split at hc
  · simp at hc; subst hc; decide
  · simp at hc; subst hc; exact h c hd
theorem three_length (l : Bs) : (three l).length ≤ 3 * l.length := by
  unfold three
  induction l with
  | nil => simp
  | cons c r ih =>
    have e : (if c = 32 then ([32, 32, 32] : Bs) else [c]).length ≤ 3 := by split <;> simp
    rw [List.flatMap_cons, List.length_append, List.length_cons]
    omega

theorem styled_ok {o : OpL} {L : Bs} (h : GoodLine o L) (k : Nat) : NoB 10 (styled k L) ∧ (styled k L).length ≤ 12003 := by
  have h1 := h.nl
  have h2 := h.short
  have h3 := three_length L
  unfold styled
  split
  · exact ⟨h1, by omega⟩
  · refine ⟨?_, by simp; omega⟩
    intro c hc
    simp only [List.mem_append, List.mem_cons, List.not_mem_nil, or_false] at hc
    rcases hc with ((rfl | rfl) | hc) | rfl
    · decide
    · decide
    · exact three_noB L h1 c hc
    · decide

theorem skip_good {o : OpL} (hd : 1 ≤ o.d ∧ o.d ≤ 7) {s : Bs} (h : wordsL s = wordsOf o) : skipL s = false := by
  unfold skipL
  rw [h]
  obtain ⟨r, hr, _⟩ := line_shape o
  rw [hr]
  exact do_head o.d hd

/-! ### What the composed text is parsed to -/

structure AllGood (os : List OpL) (ls : List Bs) : Prop where
  len : os.length = ls.length
  few : ls.length ≤ 12
  each : ∀ i (h : i < os.length), GoodOp os[i] ∧ GoodLine os[i] (ls.getD i [])

theorem parse_rowsI {os : List OpL} {ls : List Bs} (h : AllGood os ls) (bl : List Nat) (i : Nat) (hi : i < os.length) (r : List Bs) (n : Nat) (acc : List OpL) :
    parseRows n (rowsI bl ls i ++ r) acc = parseRows (n + (rowsI bl ls i).length) r (acc ++ [os[i]]) := by
  obtain ⟨h1, h2⟩ := h.each i hi
  unfold rowsI
  rw [List.append_assoc, parse_skips _ _ _ _ (more_skip _), List.singleton_append]
  have hw := styled_words h2 (kAt bl i)
  rw [parse_op _ _ _ _ os[i] (skip_good h1.kind hw) (by rw [hw]; exact h1.back)]
  congr 1
  simp; omega

/-- From row i on. -/
def rowsFrom (bl : List Nat) (ls : List Bs) (i : Nat) : Nat → List Bs
  | 0 => []
  | m + 1 => rowsI bl ls i ++ rowsFrom bl ls (i + 1) m

theorem rowsN_split (bl : List Nat) (ls : List Bs) : ∀ m i, rowsN bl ls (i + m) = rowsN bl ls i ++ rowsFrom bl ls i m
  | 0, i => by simp [rowsFrom]
  | m + 1, i => by
    rw [show i + (m + 1) = (i + 1) + m by omega, rowsN_split bl ls m (i + 1), rowsFrom, rowsN, List.append_assoc]

theorem parse_from {os : List OpL} {ls : List Bs} (h : AllGood os ls) (bl : List Nat) : ∀ (m i : Nat) (hi : i + m = os.length) (n : Nat) (acc : List OpL),
    parseRows n (rowsFrom bl ls i m) acc = (acc ++ os.drop i, 0, 0)
  | 0, i, hi, n, acc => by
    have : os.drop i = [] := List.drop_eq_nil_of_le (by omega)
    rw [this]
    simp [rowsFrom, parseRows]
  | m + 1, i, hi, n, acc => by
    have hlt : i < os.length := by omega
    rw [rowsFrom, parse_rowsI h bl i hlt, parse_from h bl m (i + 1) (by omega), List.append_assoc]
    have : os.drop i = os[i] :: os.drop (i + 1) := List.drop_eq_getElem_cons hlt
    rw [this]
    rfl

theorem parse_all {os : List OpL} {ls : List Bs} (h : AllGood os ls) (bl : List Nat) : parseRows 1 (rowsN bl ls os.length) [] = (os, 0, 0) := by
  have h0 := rowsN_split bl ls os.length 0
  rw [Nat.zero_add] at h0
  have h1 := parse_from h bl os.length 0 (by omega) 1 []
  rw [h0]
  simpa [rowsN] using h1

theorem parse_plain {os : List OpL} {ls : List Bs} (h : AllGood os ls) : parseRows 1 ls [] = (os, 0, 0) := by
  have key : ∀ (m i : Nat), i + m = os.length → ∀ n acc, parseRows n (ls.drop i) acc = (acc ++ os.drop i, 0, 0) := by
    intro m
    induction m with
    | zero =>
      intro i hi n acc
      rw [List.drop_eq_nil_of_le (by have := h.len; omega), List.drop_eq_nil_of_le (by omega)]
      simp [parseRows]
    | succ m ih =>
      intro i hi n acc
      have hlt : i < os.length := by omega
      have hlt2 : i < ls.length := by have := h.len; omega
      obtain ⟨h1, h2⟩ := h.each i hlt
      have hg : ls.getD i [] = ls[i] := by simp [List.getD, hlt2]
      rw [hg] at h2
      rw [List.drop_eq_getElem_cons hlt2, List.drop_eq_getElem_cons hlt, parse_op _ _ _ _ os[i] (skip_good h1.kind h2.ws) (by rw [h2.ws]; exact h1.back), ih (i + 1) (by omega)]
      simp
  have := key os.length 0 (by omega) 1 []
  simpa using this

/-- The line that is none, where the next op would begin: it is told by its number. -/
theorem parse_wrong {os : List OpL} {ls : List Bs} (h : AllGood os ls) (bl : List Nat) (l : Bs) (hl : l ∈ looseL) : ∀ (m i : Nat) (acc : List OpL) (n : Nat) (rest : List Bs), i + m ≤ os.length →
    parseRows n (rowsFrom bl ls i m ++ l :: rest) acc = ([], n + (rowsFrom bl ls i m).length, 320)
  | 0, i, acc, n, rest, hi => by
    obtain ⟨h1, h2⟩ := loose_none l hl
    rw [rowsFrom, List.nil_append, parse_bad l rest n acc h2 h1]
    rfl
  | m + 1, i, acc, n, rest, hi => by
    have hlt : i < os.length := by omega
    rw [rowsFrom, List.append_assoc, parse_rowsI h bl i hlt, parse_wrong h bl l hl m (i + 1) _ _ rest (by omega), List.length_append]
    congr 2
    omega

theorem rowsN_from (bl : List Nat) (ls : List Bs) (n : Nat) : rowsN bl ls n = rowsFrom bl ls 0 n := by
  have := rowsN_split bl ls n 0
  rw [Nat.zero_add] at this
  rw [this]; rfl

theorem rowsI_ok {os : List OpL} {ls : List Bs} (h : AllGood os ls) (bl : List Nat) (i : Nat) (hi : i < os.length) :
    (∀ p ∈ rowsI bl ls i, NoB 10 p) ∧ (rowsI bl ls i).length ≤ 3 ∧ (glue (rowsI bl ls i)).length ≤ 12014 := by
  obtain ⟨h1, h2⟩ := h.each i hi
  obtain ⟨m1, m2, m3⟩ := more_few (kAt bl i)
  obtain ⟨s1, s2⟩ := styled_ok h2 (kAt bl i)
  refine ⟨?_, ?_, ?_⟩
  · intro p hp
    unfold rowsI at hp
    rcases List.mem_append.1 hp with hp | hp
    · exact more_noNl _ p hp
    · simp at hp; subst hp; exact s1
  · unfold rowsI; rw [List.length_append]; simp; omega
  · unfold rowsI
    have e : ∀ s : Bs, glue [s] = s ++ [10] := fun s => by simp [glue]
    rw [glue_app, List.length_append, e, List.length_append, List.length_singleton]
    unfold moreL at m2
    omega

theorem rowsN_ok {os : List OpL} {ls : List Bs} (h : AllGood os ls) (bl : List Nat) : ∀ n, n ≤ os.length →
    (∀ p ∈ rowsN bl ls n, NoB 10 p) ∧ (rowsN bl ls n).length ≤ 3 * n ∧ (glue (rowsN bl ls n)).length ≤ 12014 * n
  | 0, _ => by simp [rowsN, glue]
  | n + 1, hn => by
    obtain ⟨a1, a2, a3⟩ := rowsN_ok h bl n (by omega)
    obtain ⟨b1, b2, b3⟩ := rowsI_ok h bl n (by omega)
    refine ⟨?_, ?_, ?_⟩
    · intro p hp
      rw [rowsN] at hp
      rcases List.mem_append.1 hp with hp | hp
      · exact a1 p hp
      · exact b1 p hp
    · rw [rowsN, List.length_append]; omega
    · rw [rowsN, glue_app, List.length_append]; omega
end Go.Proofs.YtadncponjpdcmaaGreatDoor
