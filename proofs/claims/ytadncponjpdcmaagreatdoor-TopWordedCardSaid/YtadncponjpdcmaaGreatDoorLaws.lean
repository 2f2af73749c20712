/-
  The plain laws: what is written is read again; a line's words; the lines that are none.
-/
import Derived.Test.YtadncponjpdcmaaGreatDoorVerseV
import Derived.Test.YtadncponjpdcmaaGreatDoorPOp
namespace Go.Proofs.YtadncponjpdcmaaGreatDoor
open Go.RowKit

/-! ### Numbers -/

theorem parse_dec : ∀ (u : Nat), u < 100000000 → ∀ rest : Bs, Lib.parseUint10 0 (Lib.decDigits u ++ rest) = Lib.parseUint10 u rest := by
  intro u
  induction u using Nat.strongRecOn with
  | ind u ih =>
    intro hu rest
    rw [Lib.decDigits]
    split
    · rename_i h
      have hc : (UInt8.ofNat (48 + u)).toNat = 48 + u := by rw [UInt8.toNat_ofNat']; omega
      rw [List.singleton_append, Lib.parseUint10, hc, if_pos (by omega), if_neg (by omega), if_neg (by omega)]
      congr 1
      omega
    · rename_i h
      have hc : (UInt8.ofNat (48 + u % 10)).toNat = 48 + u % 10 := by rw [UInt8.toNat_ofNat']; omega
      rw [List.append_assoc, ih (u / 10) (by omega) (by omega), List.singleton_append, Lib.parseUint10, hc, if_pos (by omega), if_neg (by omega), if_neg (by omega)]
      congr 1
      omega

theorem dec_ne (u : Nat) : Lib.decDigits u ≠ [] := by
  rw [Lib.decDigits]
  split <;> simp

theorem dec_bytes : ∀ (u : Nat), ∀ c ∈ Lib.decDigits u, 48 ≤ c.toNat ∧ c.toNat ≤ 57 := by
  intro u
  induction u using Nat.strongRecOn with
  | ind u ih =>
    intro c hc
    rw [Lib.decDigits] at hc
    split at hc
    · simp only [List.mem_singleton] at hc
      subst hc
      rw [UInt8.toNat_ofNat']; omega
    · rcases List.mem_append.1 hc with hc | hc
      · exact ih (u / 10) (by omega) c hc
      · simp only [List.mem_singleton] at hc
        subst hc
        rw [UInt8.toNat_ofNat']; omega

theorem parseMag_dec (u : Nat) (h : u < 100000000) : Lib.parseMag (Lib.decDigits u) = .ok u := by
  unfold Lib.parseMag
  rw [if_neg (dec_ne u)]
  have := parse_dec u h []
  rw [List.append_nil] at this
  rw [this]
  rfl

theorem num_itoa (n : Int) (h : int16 n) : numR (Lib.itoa n) = n := by
  obtain ⟨h0, h1⟩ := h
  have : Lib.atoiAll (Lib.itoa n) = .ok n := by
    unfold Lib.itoa
    split
    · unfold Lib.atoiAll
      simp only []
      have e : (45 : UInt8).toNat = 45 := rfl
      rw [e, if_pos (by omega), parseMag_dec _ (by omega)]
      simp only [not_true, false_and, if_false, true_and]
      rw [if_neg (by omega), if_pos trivial]
      congr 1
      omega
    · obtain ⟨c, r, hd⟩ : ∃ c r, Lib.decDigits n.toNat = c :: r := by
        cases hh : Lib.decDigits n.toNat with
        | nil => exact absurd hh (dec_ne _)
        | cons c r => exact ⟨c, r, rfl⟩
      have hb := dec_bytes n.toNat c (by rw [hd]; simp)
      have hp := parseMag_dec n.toNat (by omega)
      rw [hd] at hp ⊢
      unfold Lib.atoiAll
      simp only []
      rw [if_neg (by omega), hp]
      simp only []
      have hn : ¬ (c.toNat = 45) := by omega
      rw [if_neg (by omega), if_neg (by omega), if_neg hn]
      congr 1
      omega
  unfold numR
  rw [this]

theorem itoa_bytes (n : Int) : Lib.itoa n ≠ [] ∧ ∀ c ∈ Lib.itoa n, 32 < c.toNat := by
  unfold Lib.itoa
  split
  · refine ⟨by simp, fun c hc => ?_⟩
    rcases List.mem_cons.1 hc with rfl | hc
    · decide
    · have := dec_bytes _ c hc; omega
  · exact ⟨dec_ne _, fun c hc => by have := dec_bytes _ c hc; omega⟩

theorem do_bytes : ∀ d, 1 ≤ d → d ≤ 7 → doW d ≠ [] ∧ ∀ c ∈ doW d, 32 < c.toNat := by
  intro d h1 h7
  obtain rfl | rfl | rfl | rfl | rfl | rfl | rfl : d = 1 ∨ d = 2 ∨ d = 3 ∨ d = 4 ∨ d = 5 ∨ d = 6 ∨ d = 7 := by omega
  all_goals decide
theorem def_bytes : ∀ b, defW b ≠ [] ∧ ∀ c ∈ defW b, 32 < c.toNat := by decide

/-! ### What is written is read again -/

theorem step_good {T : Type} (W : T → Bs) (R : Bs → T) (x y : T) (ws : List Bs) (hR : R (W x) = x) (hl : (W x).length ≤ 131072) : stepR W R (W x :: ws, false) y = ((ws, false), x) := by
  rw [stepR_yes, hR]
  have : longB (W x) = false := by unfold longB; simp; omega
  rw [this]
  simp

theorem text_good (s : Bs) (ws : List Bs) (y : Bs) (hs : s.length ≤ 200) : stepR wordL textR (wordL s :: ws, false) y = ((ws, false), s) :=
  step_good wordL textR s y ws (by unfold textR; rw [text_word]; rfl) (by have := word_length s; omega)
theorem num_good (n : Int) (ws : List Bs) (y : Int) (hn : int16 n) : stepR Lib.itoa numR (Lib.itoa n :: ws, false) y = ((ws, false), n) :=
  step_good Lib.itoa numR n y ws (num_itoa n hn) (by have := itoa_length n (by unfold int16 at hn; omega) (by unfold int16 at hn; omega); omega)
theorem def_good (b : Bool) (ws : List Bs) (y : Bool) : stepR defW defR (defW b :: ws, false) y = ((ws, false), b) :=
  step_good defW defR b y ws (by cases b <;> decide) (by cases b <;> decide)
theorem do_good (d : Nat) (hd : d < 8) (ws : List Bs) (y : Nat) : stepR doW doR (doW d :: ws, false) y = ((ws, false), d) :=
  step_good doW doR d y ws (by
    have : ∀ d : Fin 8, doR (doW d.val) = d.val := by decide
    exact this ⟨d, hd⟩) (by
    have : ∀ d : Fin 8, (doW d.val).length ≤ 131072 := by decide
    exact this ⟨d, hd⟩)

theorem read_words (v : VerseL) (hv : VerseOk v) : readL (wordsOf (opV v)) = (opV v, true) := by
  have h1 := hv.nm
  have h2 := hv.tx
  unfold opV
  split
  all_goals
    simp only [wordsOf, readL, readOp]
    rw [do_good _ (by decide)]
    simp only [def_good, text_good _ _ _ h1, text_good _ _ _ h2, num_good _ _ _ hv.c0, num_good _ _ _ hv.c1, num_good _ _ _ hv.c2, num_good _ _ _ hv.c3]
    simp

theorem words_good (v : VerseL) (hv : VerseOk v) : badOf (wordsOf (opV v)) = false ∧ ∀ s ∈ wordsOf (opV v), s ≠ [] ∧ ∀ c ∈ s, 32 < c.toNat := by
  have lt : ∀ s : Bs, s.length ≤ 200 → longB (wordL s) = false := fun s h => by
    have := word_length s
    unfold longB; simp; omega
  have ln : ∀ n : Int, int16 n → longB (Lib.itoa n) = false := fun n h => by
    have := itoa_length n (by unfold int16 at h; omega) (by unfold int16 at h; omega)
    unfold longB; simp; omega
  have ldef : ∀ b, longB (defW b) = false := by decide
  have ld : ∀ d : Fin 8, longB (doW d.val) = false := by decide
  have h1 := lt _ hv.nm
  have h2 := lt _ hv.tx
  have n0 := ln _ hv.c0
  have n1 := ln _ hv.c1
  have n2 := ln _ hv.c2
  have n3 := ln _ hv.c3
  unfold opV
  split
  all_goals
    constructor
    · simp [wordsOf, badOf, h1, h2, n0, n1, n2, n3, ldef]
      decide
    · intro s hs
      simp only [wordsOf, List.mem_cons, List.not_mem_nil, or_false] at hs
      rcases hs with rfl | hs
      · exact do_bytes _ (by decide) (by decide)
      · first
          | (rcases hs with rfl | rfl | rfl | rfl | rfl <;> first | exact itoa_bytes _ | exact word_bytes _)
          | (rcases hs with rfl | rfl <;> first | exact def_bytes _ | exact word_bytes _)
          | (rcases hs with rfl; exact word_bytes _)

theorem opV_ok (v : VerseL) (hv : VerseOk v) : (1 ≤ (opV v).d ∧ (opV v).d ≤ 7) ∧ OpOk (opV v) := by
  have h1 := hv.nm
  have h2 := hv.tx
  have i16 : ∀ n, int16 n → int64 n := fun n h => by unfold int16 at h; unfold int64; omega
  have c0 := i16 _ hv.c0
  have c1 := i16 _ hv.c1
  have c2 := i16 _ hv.c2
  have c3 := i16 _ hv.c3
  unfold opV
  split
  all_goals
    refine ⟨by simp, ⟨by simp, by simp; try omega, by simp; try omega, ?_, ?_, ?_, ?_⟩⟩ <;> first | assumption | exact int64_zero
end Go.Proofs.YtadncponjpdcmaaGreatDoor
