/-
  The plain functions that the texts of layer 32's lines compute: a text's word, its reading, an op's words, and a line's words; with the laws that what is written is read again.
-/
import Derived.Lib.SplitLaws
import Derived.Lib.Join
import Derived.Lib.ItoaNum
import Derived.Lib.AtoiAll
import Derived.Lib.ValidLaws
import Derived.Lib.IndexMore
namespace Go.Proofs.YtadncponjpdcmaaGreatDoor

abbrev Bs := List UInt8

/-! ### One byte as a separator -/

def split1 (k : UInt8) : Bs → List Bs
  | [] => [[]]
  | c :: l => if c = k then [] :: split1 k l else match split1 k l with
    | [] => [[c]]
    | p :: r => (c :: p) :: r

theorem split1_ne (k : UInt8) : ∀ l, split1 k l ≠ []
  | [] => by simp [split1]
  | c :: l => by
    unfold split1
    split
    · simp
    · split <;> simp

theorem index_cons_eq (k : UInt8) (l : Bs) : Lib.index (k :: l) [k] = 0 := by
  rw [Lib.index]; simp [List.isPrefixOf]
theorem index_cons_ne (c k : UInt8) (l : Bs) (h : c ≠ k) : Lib.index (c :: l) [k] = if Lib.index l [k] == -1 then -1 else Lib.index l [k] + 1 := by
  have hp : ([k] : Bs).isPrefixOf (c :: l) = false := by simp [List.isPrefixOf, Ne.symm h]
  rw [Lib.index, hp]; simp

theorem splitK_eq (k : UInt8) : ∀ l : Bs, Lib.splitK [k] 0 (Lib.count l [k]) l = split1 k l
  | [] => by rw [Lib.count_miss (by simp [Lib.index])]; rfl
  | c :: l => by
    have ih := splitK_eq k l
    by_cases h : c = k
    · subst h
      rw [Lib.count_cons_eq, Nat.add_comm, Lib.splitK, index_cons_eq]
      simp [split1, ih]
    · rw [Lib.count_cons_ne _ _ _ h]
      unfold split1
      rw [if_neg h]
      by_cases hm : Lib.index l [k] = -1
      · have h0 : Lib.count l [k] = 0 := Lib.count_miss hm
        rw [h0] at ih ⊢
        rw [← ih]; rfl
      · have hge := Lib.index_ge l [k]
        obtain ⟨j, hj⟩ : ∃ j : Nat, Lib.index l [k] = j := ⟨(Lib.index l [k]).toNat, by omega⟩
        have hix : Lib.index (c :: l) [k] = ((j + 1 : Nat) : Int) := by
          rw [index_cons_ne _ _ _ h, hj]
          rw [if_neg (by simp <;> omega)]; omega
        rw [Lib.count_hit (by simp) hj, Nat.add_comm 1] at ih ⊢
        rw [Lib.splitK] at ih ⊢
        rw [hj] at ih
        rw [hix]
        rw [if_neg (by simp <;> omega)] at ih ⊢
        rw [← ih]
        simp

theorem split_one (k : UInt8) (l : Bs) : Lib.split l [k] = split1 k l := splitK_eq k l

/-- Pieces without the byte, put together with it, come apart again. -/
theorem split1_app (k : UInt8) : ∀ (p l : Bs), (∀ c ∈ p, c ≠ k) → split1 k (p ++ l) = match split1 k l with
    | [] => [p]
    | q :: r => (p ++ q) :: r
  | [], l, _ => by
    have := split1_ne k l
    cases h : split1 k l with
    | nil => exact absurd h this
    | cons q r => simp [h]
  | c :: p, l, h => by
    rw [List.cons_append, split1, if_neg (h c (by simp)), split1_app k p l (fun d hd => h d (by simp [hd]))]
    cases split1 k l <;> simp

theorem split1_none (k : UInt8) (p : Bs) (h : ∀ c ∈ p, c ≠ k) : split1 k p = [p] := by
  have := split1_app k p [] h
  simpa [split1] using this

theorem split1_sep (k : UInt8) (p l : Bs) (h : ∀ c ∈ p, c ≠ k) : split1 k (p ++ k :: l) = p :: split1 k l := by
  rw [split1_app k p _ h, split1, if_pos rfl]
  simp

/-! ### A text's word -/

def hexDig (n : Nat) : UInt8 := if n < 10 then UInt8.ofNat (48 + n) else UInt8.ofNat (87 + n)
def hexedL (b : UInt8) : Bs := [37, hexDig (b.toNat / 16), hexDig (b.toNat % 16)]
def keepB (b : UInt8) : Bool := decide (32 < b.toNat) && (decide (b.toNat ≠ 127) && decide (b.toNat ≠ 37))
def enc1 (b : UInt8) : Bs := if keepB b then [b] else hexedL b
def wordL (s : Bs) : Bs :=
  if s = [] then [45] else if s = [45] then [37, 50, 100] else if Lib.validD s then s.flatMap enc1 else s.flatMap hexedL

/-! ### A word's text -/

def hexVal (c : UInt8) : Option Nat :=
  if 48 ≤ c.toNat ∧ c.toNat ≤ 57 then some (c.toNat - 48)
  else if 97 ≤ c.toNat ∧ c.toNat ≤ 102 then some (c.toNat - 87)
  else if 65 ≤ c.toNat ∧ c.toNat ≤ 70 then some (c.toNat - 55)
  else none
def decPart : Bs → Option Bs
  | a :: b :: r => match hexVal a, hexVal b with
    | some x, some y => some (UInt8.ofNat (16 * x + y) :: r)
    | _, _ => none
  | _ => none
def decParts : List Bs → Option Bs
  | [] => some []
  | p :: r => match decPart p with
    | none => none
    | some x => (decParts r).map (x ++ ·)
def rawText (w : Bs) : Option Bs := match Lib.split w [37] with
  | [] => some []
  | p :: r => (decParts r).map (p ++ ·)
def textL (w : Bs) : Option Bs := match rawText w with
  | none => none
  | some s => if wordL (if w = [45] then [] else s) = w then some (if w = [45] then [] else s) else none

theorem hexDig_fin : ∀ n : Fin 16, hexVal (hexDig n.val) = some n.val ∧ hexDig n.val ≠ 37 ∧ 32 < (hexDig n.val).toNat ∧ (hexDig n.val).toNat < 127 := by decide +kernel
theorem hexVal_hexDig (n : Nat) (h : n < 16) : hexVal (hexDig n) = some n := (hexDig_fin ⟨n, h⟩).1
theorem hexDig_ne (n : Nat) (h : n < 16) : hexDig n ≠ 37 := (hexDig_fin ⟨n, h⟩).2.1

theorem hexed_back (b : UInt8) (r : Bs) : decPart (hexDig (b.toNat / 16) :: hexDig (b.toNat % 16) :: r) = some (b :: r) := by
  have hb := b.toNat_lt
  unfold decPart
  simp only [hexVal_hexDig _ (show b.toNat / 16 < 16 by omega), hexVal_hexDig _ (show b.toNat % 16 < 16 by omega)]
  congr 2
  have : 16 * (b.toNat / 16) + b.toNat % 16 = b.toNat := by omega
  rw [this]
  simp

theorem keepB_ne {b : UInt8} (h : keepB b = true) : b ≠ 37 := by
  rintro rfl
  simp [keepB] at h

/-- What is encoded byte by byte, each as itself (no %) or as % and two digits, is read again. -/
theorem raw_flat (enc : UInt8 → Bs) (henc : ∀ b, (enc b = [b] ∧ b ≠ 37) ∨ enc b = hexedL b) : ∀ s : Bs, rawText (s.flatMap enc) = some s := by
  have key : ∀ s : Bs, ∃ p r, split1 37 (s.flatMap enc) = p :: r ∧ (decParts r).map (p ++ ·) = some s := by
    intro s
    induction s with
    | nil => exact ⟨[], [], rfl, rfl⟩
    | cons b s ih =>
      obtain ⟨p, r, h1, h2⟩ := ih
      rw [List.flatMap_cons]
      rcases henc b with ⟨e, hb⟩ | e
      · rw [e, split1_app 37 [b] _ (by simpa using hb), h1]
        refine ⟨_, _, rfl, ?_⟩
        cases hd : decParts r with
        | none => rw [hd] at h2; simp at h2
        | some x =>
          rw [hd] at h2
          simp at h2 ⊢
          exact h2
      · have hb := b.toNat_lt
        rw [e]
        show ∃ p r, split1 37 ([] ++ 37 :: ([hexDig (b.toNat / 16), hexDig (b.toNat % 16)] ++ s.flatMap enc)) = _ ∧ _
        rw [split1_sep 37 [] _ (by simp), split1_app 37 [hexDig (b.toNat / 16), hexDig (b.toNat % 16)] _ (by
          intro c hc
          simp at hc
          rcases hc with rfl | rfl
          · exact hexDig_ne _ (by omega)
          · exact hexDig_ne _ (by omega)), h1]
        refine ⟨_, _, rfl, ?_⟩
        cases hd : decParts r with
        | none => rw [hd] at h2; simp at h2
        | some x =>
          rw [hd] at h2
          simp at h2
          simp only [decParts, List.cons_append, List.nil_append, hexed_back, hd]
          simp [h2]
  intro s
  obtain ⟨p, r, h1, h2⟩ := key s
  unfold rawText
  rw [split_one, h1]
  exact h2

theorem flat_ne (enc : UInt8 → Bs) (henc : ∀ b, (enc b = [b] ∧ b ≠ 37) ∨ enc b = hexedL b) (s : Bs) (h : s ≠ [45]) : s.flatMap enc ≠ [45] := by
  intro e
  cases s with
  | nil => simp at e
  | cons b s =>
    rw [List.flatMap_cons] at e
    rcases henc b with ⟨e1, hb⟩ | e1
    · rw [e1] at e
      simp only [List.cons_append, List.nil_append, List.cons.injEq] at e
      obtain ⟨rfl, e2⟩ := e
      cases s with
      | nil => exact h rfl
      | cons c s =>
        rw [List.flatMap_cons] at e2
        rcases henc c with ⟨e3, _⟩ | e3 <;> rw [e3] at e2 <;> simp [hexedL] at e2
    · rw [e1] at e
      simp [hexedL] at e

theorem enc1_or (b : UInt8) : (enc1 b = [b] ∧ b ≠ 37) ∨ enc1 b = hexedL b := by
  unfold enc1
  by_cases h : keepB b = true
  · rw [if_pos h]; exact .inl ⟨rfl, keepB_ne h⟩
  · rw [if_neg h]; exact .inr rfl

theorem text_word (s : Bs) : textL (wordL s) = some s := by
  by_cases h0 : s = []
  · subst h0; decide
  by_cases h1 : s = [45]
  · subst h1; decide
  have key : ∀ enc : UInt8 → Bs, (∀ b, (enc b = [b] ∧ b ≠ 37) ∨ enc b = hexedL b) → wordL s = s.flatMap enc → textL (wordL s) = some s := by
    intro enc henc e
    have hn := flat_ne enc henc s h1
    unfold textL
    rw [e, raw_flat enc henc s]
    simp only
    rw [if_neg hn, if_pos e]
  by_cases hv : Lib.validD s = true
  · exact key enc1 enc1_or (by unfold wordL; rw [if_neg h0, if_neg h1, if_pos hv])
  · exact key hexedL (fun _ => .inr rfl) (by unfold wordL; rw [if_neg h0, if_neg h1, if_neg hv])

/-- A word is not empty, and holds nothing up to a blank. -/
theorem word_bytes (s : Bs) : wordL s ≠ [] ∧ ∀ c ∈ wordL s, 32 < c.toNat := by
  have hh : ∀ b : UInt8, ∀ c ∈ hexedL b, 32 < c.toNat := by
    intro b c hc
    have hb := b.toNat_lt
    simp [hexedL] at hc
    rcases hc with rfl | rfl | rfl
    · decide
    · exact (hexDig_fin ⟨b.toNat / 16, by omega⟩).2.2.1
    · exact (hexDig_fin ⟨b.toNat % 16, by omega⟩).2.2.1
  have he : ∀ b : UInt8, ∀ c ∈ enc1 b, 32 < c.toNat := by
    intro b c hc
    unfold enc1 at hc
    split at hc
    · rename_i hk
      simp at hc
      subst hc
      simp [keepB] at hk
      exact hk.1
    · exact hh b c hc
  have hne : ∀ b, hexedL b ≠ [] ∧ enc1 b ≠ [] := by
    intro b
    refine ⟨by simp [hexedL], ?_⟩
    unfold enc1; split <;> simp [hexedL]
  by_cases h0 : s = []
  · subst h0; decide
  by_cases h1 : s = [45]
  · subst h1; decide
  obtain ⟨b, t, rfl⟩ := List.exists_cons_of_ne_nil h0
  unfold wordL
  rw [if_neg h0, if_neg h1]
  split
  · refine ⟨by rw [List.flatMap_cons]; simp [(hne b).2], fun c hc => ?_⟩
    obtain ⟨d, _, hd⟩ := List.mem_flatMap.1 hc
    exact he d c hd
  · refine ⟨by rw [List.flatMap_cons]; simp [(hne b).1], fun c hc => ?_⟩
    obtain ⟨d, _, hd⟩ := List.mem_flatMap.1 hc
    exact hh d c hd

theorem word_length (s : Bs) : (wordL s).length ≤ 3 * s.length + 1 := by
  have hf : ∀ (enc : UInt8 → Bs), (∀ b, (enc b).length ≤ 3) → ∀ s : Bs, (s.flatMap enc).length ≤ 3 * s.length := by
    intro enc he s
    induction s with
    | nil => simp
    | cons b s ih => rw [List.flatMap_cons, List.length_append, List.length_cons]; have := he b; omega
  have h1 := hf enc1 (fun b => by unfold enc1; split <;> simp [hexedL]) s
  have h2 := hf hexedL (fun b => by simp [hexedL]) s
  unfold wordL
  by_cases h0 : s = []
  · rw [if_pos h0]; simp
  rw [if_neg h0]
  by_cases h3 : s = [45]
  · rw [if_pos h3, h3]; simp
  rw [if_neg h3]
  split
  · exact Nat.le_succ_of_le h1
  · exact Nat.le_succ_of_le h2

end Go.Proofs.YtadncponjpdcmaaGreatDoor
